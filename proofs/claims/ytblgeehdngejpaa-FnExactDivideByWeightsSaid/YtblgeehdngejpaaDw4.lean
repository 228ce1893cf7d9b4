/-
  impl.DivideByWeights: where it says no.
-/
import Derived.Test.YtblgeehdngejpaaDw3
namespace Go.Proofs.Ytblgeehdngejpaa
open Go.RowKit
set_option linter.unusedVariables false

theorem dv_parts (xs : List Int) (T : Int) : (allIn xs 0 1000000 = false ∧ dvB xs T = false) ∨ (allIn xs 0 1000000 = true ∧ inB (xs.length : Int) 1 32 = false ∧ dvB xs T = false) ∨ (allIn xs 0 1000000 = true ∧ inB (xs.length : Int) 1 32 = true ∧ sumL xs = 0 ∧ dvB xs T = false) ∨
    (allIn xs 0 1000000 = true ∧ inB (xs.length : Int) 1 32 = true ∧ sumL xs ≠ 0 ∧ inB T 0 100000 = false ∧ dvB xs T = false) ∨ (allIn xs 0 1000000 = true ∧ inB (xs.length : Int) 1 32 = true ∧ sumL xs ≠ 0 ∧ inB T 0 100000 = true ∧ dvB xs T = true) := by
  unfold dvB
  by_cases h : sumL xs = 0
  · rcases allIn xs 0 1000000 with _ | _ <;> rcases inB (xs.length : Int) 1 32 with _ | _ <;> rcases inB T 0 100000 with _ | _ <;> simp [h]
  · rcases allIn xs 0 1000000 with _ | _ <;> rcases inB (xs.length : Int) 1 32 with _ | _ <;> rcases inB T 0 100000 with _ | _ <;> simp [h]
theorem allIn_mem {xs : List Int} {lo hi : Int} (h : allIn xs lo hi = true) : ∀ x ∈ xs, lo ≤ x ∧ x ≤ hi := by
  unfold allIn at h
  rw [List.all_eq_true] at h
  exact fun x hx => inB_iff.1 (h x hx)
set_option maxHeartbeats 2000000 in
theorem implDW_bad (A : Option Addr) (n cp : Nat) (xs : List Int) (T : Int) (w : World) (hr : Rd cI 1 w w.heap.size A n xs) (hn : n ≤ 1048576) (hB : dvB xs T = false) :
    Calls Try.prog 6 #[.slice A n cp, .int .i64 T] w (RetS (dvL xs T) (dvB xs T) w) := by
  have hl := hr.1
  have HB := Lib.hid hB
  have HL := Lib.hid (dvL_no hB)
  have HR := Lib.hid hr
  have hp := Lib.hid (dv_parts xs T)
  rw [dvL_no hB, hB]
  clear hB
  go_enter Try.func6, Try.ntmps6
  go_wp2
  go_loopw [17] (fun i wr => ∃ k : Nat, k ≤ n ∧ i = .int .i64 k ∧ Hid ((xs.take k).all (inB · 0 1000000) = true) ∧ wr = (w.alloc (.cells #[.slice A n cp] 22)).alloc (.cells #[.int .i64 T] 3)) (fun i _ => n - (intOf i).toNat)
  case atStart => exact ⟨0, Nat.zero_le _, rfl, Lib.hid rfl, rfl⟩
  case round =>
    obtain ⟨k, hk, rfl, HA, rfl⟩ := hrel
    by_cases hlt : k < n
    · obtain ⟨b, off, x, rfl, hbB, hx, hc⟩ := HR.out.atI hlt
      have HX := Lib.hid hx
      clear hx
      by_cases hin : inB x 0 1000000 = true
      · have HI := Lib.hid hin
        go_wp2_with (go_at_call 12; refine (within_any _ _ _ _).mono ?_; rw [HI.out]; rintro e w' ⟨rfl, rfl⟩)
        go_roundw
        case rel => exact ⟨k + 1, by omega, by go_num, Lib.hid (all_snoc HX.out HA.out HI.out), trivial⟩
        case measure => simp [intOf]; omega
      · have hin' : inB x 0 1000000 = false := by simpa using hin
        have HI := Lib.hid hin'
        clear hin hin'
        go_wp2_with (go_at_call 12; refine (within_any _ _ _ _).mono ?_; rw [HI.out]; rintro e w' ⟨rfl, rfl⟩)
        go_ret2
        exact rets_nil rfl (by repeat (first | (with_reducible exact Below.refl _ _) | (with_reducible assumption) | (with_reducible refine bl_alloc ?_ _) | (with_reducible refine bl_drew ?_) | (with_reducible refine bl_drewN ?_ _) | ((with_reducible refine bl_set ?_ ?hb _); (case hb => first | (simp; done) | omega | (simp; omega))) | (with_reducible refine bl_trans ?_ (by assumption)))) _ _
    · have hall : allIn xs 0 1000000 = true := all_end (by omega) HA.out
      have HRa := Lib.hid (HR.out.bl (bl_alloc (bl_alloc (Below.refl w.heap.size w) (.cells #[.slice A n cp] 22)) (.cells #[.int .i64 T] 3)) (Nat.le_refl _))
      have HM := Lib.hid (allIn_mem hall)
      rcases hp.out with ⟨h1, _⟩ | ⟨_, h2, _⟩ | ⟨_, h2, h3, _⟩ | ⟨_, h2, h3, h4, _⟩ | ⟨_, _, _, _, h5⟩
      · rw [h1] at hall; cases hall
      · have H2 := Lib.hid (show inB (n : Int) 1 32 = false by rw [← hl]; exact h2)
        clear h2 hall
        go_wp2_with (first | (go_at_call 13; refine (sum_any _ _ _ _ xs 1000000 _ HRa.out hn (by omega) HM.out).mono ?_; rintro e w' ⟨rfl, rfl⟩) | (go_at_call 12; refine (within_any _ _ _ _).mono ?_; rw [H2.out]; rintro e w' ⟨rfl, rfl⟩))
        go_ret2
        exact rets_nil rfl (by repeat (first | (with_reducible exact Below.refl _ _) | (with_reducible assumption) | (with_reducible refine bl_alloc ?_ _) | (with_reducible refine bl_drew ?_) | (with_reducible refine bl_drewN ?_ _) | ((with_reducible refine bl_set ?_ ?hb _); (case hb => first | (simp; done) | omega | (simp; omega))) | (with_reducible refine bl_trans ?_ (by assumption)))) _ _
      · have H2 := Lib.hid (show inB (n : Int) 1 32 = true by rw [← hl]; exact h2)
        have H3 := Lib.hid h3
        clear h2 h3 hall
        go_wp2_with (first | (go_at_call 13; refine (sum_any _ _ _ _ xs 1000000 _ HRa.out hn (by omega) HM.out).mono ?_; rw [H3.out]; rintro e w' ⟨rfl, rfl⟩) | (go_at_call 12; refine (within_any _ _ _ _).mono ?_; rw [H2.out]; rintro e w' ⟨rfl, rfl⟩))
        go_ret2
        exact rets_nil rfl (by repeat (first | (with_reducible exact Below.refl _ _) | (with_reducible assumption) | (with_reducible refine bl_alloc ?_ _) | (with_reducible refine bl_drew ?_) | (with_reducible refine bl_drewN ?_ _) | ((with_reducible refine bl_set ?_ ?hb _); (case hb => first | (simp; done) | omega | (simp; omega))) | (with_reducible refine bl_trans ?_ (by assumption)))) _ _
      · have H2 := Lib.hid (show inB (n : Int) 1 32 = true by rw [← hl]; exact h2)
        have H4 := Lib.hid h4
        obtain ⟨S, hS⟩ : ∃ S, sumL xs = S := ⟨_, rfl⟩
        have H3 := Lib.hid hS
        rw [hS] at h3
        have hb3 : (S == 0) = false := by simpa using h3
        clear h2 h4 hall hS
        go_wp2_with (first | (go_at_call 13; refine (sum_any _ _ _ _ xs 1000000 _ HRa.out hn (by omega) HM.out).mono ?_; rw [H3.out]; rintro e w' ⟨rfl, rfl⟩) | (go_at_call 12; refine (within_any _ _ _ _).mono ?_; (first | rw [H2.out] | rw [H4.out]); rintro e w' ⟨rfl, rfl⟩))
        go_ret2
        exact rets_nil rfl (by repeat (first | (with_reducible exact Below.refl _ _) | (with_reducible assumption) | (with_reducible refine bl_alloc ?_ _) | (with_reducible refine bl_drew ?_) | (with_reducible refine bl_drewN ?_ _) | ((with_reducible refine bl_set ?_ ?hb _); (case hb => first | (simp; done) | omega | (simp; omega))) | (with_reducible refine bl_trans ?_ (by assumption)))) _ _
      · have := HB.out; rw [h5] at this; cases this
end Go.Proofs.Ytblgeehdngejpaa
