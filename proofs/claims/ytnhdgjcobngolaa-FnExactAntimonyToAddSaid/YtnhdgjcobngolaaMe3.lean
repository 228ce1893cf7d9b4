/-
  Contracts of DoesFit: does an alloy fit a blend.
-/
import Derived.Test.YtnhdgjcobngolaaMe2
import Derived.Deep.RegionHeld3
import Derived.Deep.DeepCutAuto
import Derived.Deep.DrawnRows
namespace Go.Proofs.Ytnhdgjcobngolaa
open Go.RowKit
set_option linter.unusedVariables false

def metalB (l t a : Int) : Bool := meltB l t a && decide (0 < l + t + a)
def askB (l t a p q r s : Int) : Bool := metalB l t a && blendB p q r s
def fitsB (l t a p q r s : Int) : Bool := inB (1000 * t) (p * (l + t + a)) (q * (l + t + a)) && inB (1000 * a) (r * (l + t + a)) (s * (l + t + a))
theorem blend_iff {a b c d : Int} : blendB a b c d = true ↔ (0 ≤ a ∧ a ≤ b ∧ b ≤ 1000) ∧ (0 ≤ c ∧ c ≤ d ∧ d ≤ 1000) := by
  simp [blendB, inB]
  omega
theorem prod_bd {p g : Int} (h0 : 0 ≤ p) (h1 : p ≤ 1000) (g0 : 0 ≤ g) (g1 : g ≤ 3000000) : 0 ≤ p * g ∧ p * g ≤ 3000000000 := by
  refine ⟨Int.mul_nonneg h0 g0, ?_⟩
  have := Int.mul_le_mul h1 g1 g0 (by omega : (0 : Int) ≤ 1000)
  omega

set_option maxHeartbeats 400000 in
theorem meAsked_any (l t a p q r s : Int) (w : World) : Calls Try.prog 50 #[.agg #[.int .i64 l, .int .i64 t, .int .i64 a], .agg #[.int .i64 p, .int .i64 q, .int .i64 r, .int .i64 s]] w fun e w' => e = .returned (.bool (askB l t a p q r s)) ∧ Below w.heap.size w w' := by
  by_cases h : meltB l t a = true
  · by_cases hg : 0 < l + t + a
    · go_enter Try.func50, Try.ntmps50
      go_wp2_with (first | (go_at_call 42; refine (meGood_any _ _ _ _).mono ?_; rintro e w' ⟨rfl, hb⟩; obtain ⟨hc0, hf0, hz0⟩ := bl_at hb (k := w.heap.size) (by first | assumption | (simp; done) | (simp; omega)); obtain ⟨hc1, hf1, hz1⟩ := bl_at hb (k := w.heap.size + 1) (by first | assumption | (simp; done) | (simp; omega))) | (go_at_call 44; refine (meGrams_any _ _ _ _ h).mono ?_; rintro e w' ⟨rfl, hb⟩; obtain ⟨hc0, hf0, hz0⟩ := bl_at hb (k := w.heap.size) (by first | assumption | (simp; done) | (simp; omega)); obtain ⟨hc1, hf1, hz1⟩ := bl_at hb (k := w.heap.size + 1) (by first | assumption | (simp; done) | (simp; omega))) | (go_at_call 40; refine (meBlend_any _ _ _ _ _).mono ?_; rintro e w' ⟨rfl, hb⟩; obtain ⟨hc0, hf0, hz0⟩ := bl_at hb (k := w.heap.size) (by first | assumption | (simp; done) | (simp; omega)); obtain ⟨hc1, hf1, hz1⟩ := bl_at hb (k := w.heap.size + 1) (by first | assumption | (simp; done) | (simp; omega))))
      go_ret
      exact ⟨ret_bool (by simp [askB, metalB, h, hg]), by repeat (first | (with_reducible exact Below.refl _ _) | (with_reducible assumption) | (with_reducible refine bl_alloc ?_ _) | (with_reducible refine bl_drew ?_) | (with_reducible refine bl_drewN ?_ _) | ((with_reducible refine bl_set ?_ ?hb _); (case hb => first | (simp; done) | omega | (simp; omega))) | (with_reducible refine bl_trans ?_ (by assumption)))⟩
    · go_enter Try.func50, Try.ntmps50
      go_wp2_with (first | (go_at_call 42; refine (meGood_any _ _ _ _).mono ?_; rintro e w' ⟨rfl, hb⟩; obtain ⟨hc0, hf0, hz0⟩ := bl_at hb (k := w.heap.size) (by first | assumption | (simp; done) | (simp; omega)); obtain ⟨hc1, hf1, hz1⟩ := bl_at hb (k := w.heap.size + 1) (by first | assumption | (simp; done) | (simp; omega))) | (go_at_call 44; refine (meGrams_any _ _ _ _ h).mono ?_; rintro e w' ⟨rfl, hb⟩; obtain ⟨hc0, hf0, hz0⟩ := bl_at hb (k := w.heap.size) (by first | assumption | (simp; done) | (simp; omega)); obtain ⟨hc1, hf1, hz1⟩ := bl_at hb (k := w.heap.size + 1) (by first | assumption | (simp; done) | (simp; omega))))
      go_ret
      exact ⟨ret_bool (by simp [askB, metalB, h]; omega), by repeat (first | (with_reducible exact Below.refl _ _) | (with_reducible assumption) | (with_reducible refine bl_alloc ?_ _) | (with_reducible refine bl_drew ?_) | (with_reducible refine bl_drewN ?_ _) | ((with_reducible refine bl_set ?_ ?hb _); (case hb => first | (simp; done) | omega | (simp; omega))) | (with_reducible refine bl_trans ?_ (by assumption)))⟩
  · have h' : meltB l t a = false := by simpa using h
    clear h
    go_enter Try.func50, Try.ntmps50
    go_wp2_with (first | (go_at_call 42; refine (meGood_any _ _ _ _).mono ?_; rintro e w' ⟨rfl, hb⟩; obtain ⟨hc0, hf0, hz0⟩ := bl_at hb (k := w.heap.size) (by first | assumption | (simp; done) | (simp; omega)); obtain ⟨hc1, hf1, hz1⟩ := bl_at hb (k := w.heap.size + 1) (by first | assumption | (simp; done) | (simp; omega))))
    go_ret
    exact ⟨ret_bool (by simp [askB, metalB, h']), by repeat (first | (with_reducible exact Below.refl _ _) | (with_reducible assumption) | (with_reducible refine bl_alloc ?_ _) | (with_reducible refine bl_drew ?_) | (with_reducible refine bl_drewN ?_ _) | ((with_reducible refine bl_set ?_ ?hb _); (case hb => first | (simp; done) | omega | (simp; omega))) | (with_reducible refine bl_trans ?_ (by assumption)))⟩
set_option maxHeartbeats 400000 in
theorem isMetal_any (l t a : Int) (w : World) : Calls Try.prog 52 #[.agg #[.int .i64 l, .int .i64 t, .int .i64 a]] w fun e w' => e = .returned (.bool (metalB l t a)) ∧ Below w.heap.size w w' := by
  by_cases h : meltB l t a = true
  · by_cases hg : 0 < l + t + a
    all_goals
      go_enter Try.func52, Try.ntmps52
      go_wp2_with (first | (go_at_call 19; refine (implIsMelt_any _ _ _ _).mono ?_; rintro e w' ⟨rfl, hb⟩; obtain ⟨hc0, hf0, hz0⟩ := bl_at hb (k := w.heap.size) (by first | assumption | (simp; done) | (simp; omega))) | (go_at_call 45; refine (grams_any _ _ _ _ h).mono ?_; rintro e w' ⟨rfl, hb⟩; obtain ⟨hc0, hf0, hz0⟩ := bl_at hb (k := w.heap.size) (by first | assumption | (simp; done) | (simp; omega))))
      go_ret
      exact ⟨ret_bool (by simp [metalB, h]; try omega), by repeat (first | (with_reducible exact Below.refl _ _) | (with_reducible assumption) | (with_reducible refine bl_alloc ?_ _) | (with_reducible refine bl_drew ?_) | (with_reducible refine bl_drewN ?_ _) | ((with_reducible refine bl_set ?_ ?hb _); (case hb => first | (simp; done) | omega | (simp; omega))) | (with_reducible refine bl_trans ?_ (by assumption)))⟩
  · have h' : meltB l t a = false := by simpa using h
    clear h
    go_enter Try.func52, Try.ntmps52
    go_wp2_with (first | (go_at_call 19; refine (implIsMelt_any _ _ _ _).mono ?_; rintro e w' ⟨rfl, hb⟩; obtain ⟨hc0, hf0, hz0⟩ := bl_at hb (k := w.heap.size) (by first | assumption | (simp; done) | (simp; omega))))
    go_ret
    exact ⟨ret_bool (by simp [metalB, h']), by repeat (first | (with_reducible exact Below.refl _ _) | (with_reducible assumption) | (with_reducible refine bl_alloc ?_ _) | (with_reducible refine bl_drew ?_) | (with_reducible refine bl_drewN ?_ _) | ((with_reducible refine bl_set ?_ ?hb _); (case hb => first | (simp; done) | omega | (simp; omega))) | (with_reducible refine bl_trans ?_ (by assumption)))⟩
set_option maxHeartbeats 400000 in
theorem meFits_any (l t a p q r s : Int) (w : World) (h : meltB l t a = true) (hb : blendB p q r s = true) : Calls Try.prog 51 #[.agg #[.int .i64 l, .int .i64 t, .int .i64 a], .agg #[.int .i64 p, .int .i64 q, .int .i64 r, .int .i64 s]] w fun e w' => e = .returned (.bool (fitsB l t a p q r s)) ∧ Below w.heap.size w w' := by
  obtain ⟨⟨h1, h2⟩, ⟨h3, h4⟩, h5, h6⟩ := melt_iff.1 h
  obtain ⟨⟨k1, k2, k3⟩, k4, k5, k6⟩ := blend_iff.1 hb
  obtain ⟨b1, b2⟩ := prod_bd (p := p) (g := l + t + a) (by omega) (by omega) (by omega) (by omega)
  obtain ⟨b3, b4⟩ := prod_bd (p := q) (g := l + t + a) (by omega) (by omega) (by omega) (by omega)
  obtain ⟨b5, b6⟩ := prod_bd (p := r) (g := l + t + a) (by omega) (by omega) (by omega) (by omega)
  obtain ⟨b7, b8⟩ := prod_bd (p := s) (g := l + t + a) (by omega) (by omega) (by omega) (by omega)
  have HM := Lib.hid h
  clear h hb
  go_enter Try.func51, Try.ntmps51
  go_wp2_with (first | (go_at_call 44; refine (meGrams_any _ _ _ _ HM.out).mono ?_; rintro e w' ⟨rfl, hb⟩; obtain ⟨hc0, hf0, hz0⟩ := bl_at hb (k := w.heap.size) (by first | assumption | (simp; done) | (simp; omega)); obtain ⟨hc1, hf1, hz1⟩ := bl_at hb (k := w.heap.size + 1) (by first | assumption | (simp; done) | (simp; omega))) | (go_at_call 46; refine (l1In_any _ _ _ _).mono ?_; rintro e w' ⟨rfl, rfl⟩))
  all_goals go_ret
  all_goals exact ⟨ret_bool (by simp [fitsB, *]), by repeat (first | (with_reducible exact Below.refl _ _) | (with_reducible assumption) | (with_reducible refine bl_alloc ?_ _) | (with_reducible refine bl_drew ?_) | (with_reducible refine bl_drewN ?_ _) | ((with_reducible refine bl_set ?_ ?hb _); (case hb => first | (simp; done) | omega | (simp; omega))) | (with_reducible refine bl_trans ?_ (by assumption)))⟩
set_option maxHeartbeats 400000 in
theorem fits_any (l t a p q r s : Int) (w : World) (h : meltB l t a = true) (hb : blendB p q r s = true) : Calls Try.prog 53 #[.agg #[.int .i64 l, .int .i64 t, .int .i64 a], .agg #[.int .i64 p, .int .i64 q, .int .i64 r, .int .i64 s]] w fun e w' => e = .returned (.bool (fitsB l t a p q r s)) ∧ Below w.heap.size w w' := by
  obtain ⟨⟨h1, h2⟩, ⟨h3, h4⟩, h5, h6⟩ := melt_iff.1 h
  obtain ⟨⟨k1, k2, k3⟩, k4, k5, k6⟩ := blend_iff.1 hb
  obtain ⟨b1, b2⟩ := prod_bd (p := p) (g := l + t + a) (by omega) (by omega) (by omega) (by omega)
  obtain ⟨b3, b4⟩ := prod_bd (p := q) (g := l + t + a) (by omega) (by omega) (by omega) (by omega)
  obtain ⟨b5, b6⟩ := prod_bd (p := r) (g := l + t + a) (by omega) (by omega) (by omega) (by omega)
  obtain ⟨b7, b8⟩ := prod_bd (p := s) (g := l + t + a) (by omega) (by omega) (by omega) (by omega)
  have HM := Lib.hid h
  clear h hb
  go_enter Try.func53, Try.ntmps53
  go_wp2_with (first | (go_at_call 45; refine (grams_any _ _ _ _ HM.out).mono ?_; rintro e w' ⟨rfl, hb⟩; obtain ⟨hc0, hf0, hz0⟩ := bl_at hb (k := w.heap.size) (by first | assumption | (simp; done) | (simp; omega)); obtain ⟨hc1, hf1, hz1⟩ := bl_at hb (k := w.heap.size + 1) (by first | assumption | (simp; done) | (simp; omega))) | (go_at_call 48; refine (within_any _ _ _ _).mono ?_; rintro e w' ⟨rfl, rfl⟩))
  all_goals go_ret
  all_goals exact ⟨ret_bool (by simp [fitsB, *]), by repeat (first | (with_reducible exact Below.refl _ _) | (with_reducible assumption) | (with_reducible refine bl_alloc ?_ _) | (with_reducible refine bl_drew ?_) | (with_reducible refine bl_drewN ?_ _) | ((with_reducible refine bl_set ?_ ?hb _); (case hb => first | (simp; done) | omega | (simp; omega))) | (with_reducible refine bl_trans ?_ (by assumption)))⟩
theorem ask_melt {l t a p q r s : Int} (h : askB l t a p q r s = true) : meltB l t a = true ∧ blendB p q r s = true ∧ 0 < l + t + a := by
  simp [askB, metalB] at h
  exact ⟨h.1.1, h.2, h.1.2⟩
def fitV (l t a p q r s : Int) : Bool := askB l t a p q r s && fitsB l t a p q r s
set_option maxHeartbeats 400000 in
theorem specDoesFit_any (l t a p q r s : Int) (w : World) : Calls Try.prog 25 #[.agg #[.int .i64 l, .int .i64 t, .int .i64 a], .agg #[.int .i64 p, .int .i64 q, .int .i64 r, .int .i64 s]] w fun e w' => e = .returned (.tuple #[.bool (fitV l t a p q r s), .bool (askB l t a p q r s)]) ∧ Below w.heap.size w w' := by
  by_cases h : askB l t a p q r s = true
  · obtain ⟨h1, h2, _⟩ := ask_melt h
    have H1 := Lib.hid h1
    have H2 := Lib.hid h2
    clear h1 h2
    go_enter Try.func25, Try.ntmps25
    go_wp2_with (first | (go_at_call 50; refine (meAsked_any _ _ _ _ _ _ _ _).mono ?_; rintro e w' ⟨rfl, hb⟩; obtain ⟨hc0, hf0, hz0⟩ := bl_at hb (k := w.heap.size) (by first | assumption | (simp; done) | (simp; omega)); obtain ⟨hc1, hf1, hz1⟩ := bl_at hb (k := w.heap.size + 1) (by first | assumption | (simp; done) | (simp; omega))) | (go_at_call 51; refine (meFits_any _ _ _ _ _ _ _ _ H1.out H2.out).mono ?_; rintro e w' ⟨rfl, hb⟩; obtain ⟨hc0, hf0, hz0⟩ := bl_at hb (k := w.heap.size) (by first | assumption | (simp; done) | (simp; omega)); obtain ⟨hc1, hf1, hz1⟩ := bl_at hb (k := w.heap.size + 1) (by first | assumption | (simp; done) | (simp; omega))))
    go_ret2
    exact ⟨by simp [fitV, h], by repeat (first | (with_reducible exact Below.refl _ _) | (with_reducible assumption) | (with_reducible refine bl_alloc ?_ _) | (with_reducible refine bl_drew ?_) | (with_reducible refine bl_drewN ?_ _) | ((with_reducible refine bl_set ?_ ?hb _); (case hb => first | (simp; done) | omega | (simp; omega))) | (with_reducible refine bl_trans ?_ (by assumption)))⟩
  · have h' : askB l t a p q r s = false := by simpa using h
    clear h
    go_enter Try.func25, Try.ntmps25
    go_wp2_with (first | (go_at_call 50; refine (meAsked_any _ _ _ _ _ _ _ _).mono ?_; rintro e w' ⟨rfl, hb⟩; obtain ⟨hc0, hf0, hz0⟩ := bl_at hb (k := w.heap.size) (by first | assumption | (simp; done) | (simp; omega)); obtain ⟨hc1, hf1, hz1⟩ := bl_at hb (k := w.heap.size + 1) (by first | assumption | (simp; done) | (simp; omega))))
    go_ret2
    exact ⟨by simp [fitV, h'], by repeat (first | (with_reducible exact Below.refl _ _) | (with_reducible assumption) | (with_reducible refine bl_alloc ?_ _) | (with_reducible refine bl_drew ?_) | (with_reducible refine bl_drewN ?_ _) | ((with_reducible refine bl_set ?_ ?hb _); (case hb => first | (simp; done) | omega | (simp; omega))) | (with_reducible refine bl_trans ?_ (by assumption)))⟩
set_option maxHeartbeats 400000 in
theorem implDoesFit_any (l t a p q r s : Int) (w : World) : Calls Try.prog 26 #[.agg #[.int .i64 l, .int .i64 t, .int .i64 a], .agg #[.int .i64 p, .int .i64 q, .int .i64 r, .int .i64 s]] w fun e w' => e = .returned (.tuple #[.bool (fitV l t a p q r s), .bool (askB l t a p q r s)]) ∧ Below w.heap.size w w' := by
  by_cases h : askB l t a p q r s = true
  · obtain ⟨h1, h2, h3⟩ := ask_melt h
    have h4 : metalB l t a = true := by simp [metalB, h1, h3]
    have H1 := Lib.hid h1
    have H := Lib.hid h
    clear h1 h3 h
    go_enter Try.func26, Try.ntmps26
    go_wp2_with (first | (go_at_call 52; refine (isMetal_any _ _ _ _).mono ?_; rintro e w' ⟨rfl, hb⟩; obtain ⟨hc0, hf0, hz0⟩ := bl_at hb (k := w.heap.size) (by first | assumption | (simp; done) | (simp; omega)); obtain ⟨hc1, hf1, hz1⟩ := bl_at hb (k := w.heap.size + 1) (by first | assumption | (simp; done) | (simp; omega))) | (go_at_call 16; refine (implIsBlend_any _ _ _ _ _).mono ?_; rintro e w' ⟨rfl, hb⟩; obtain ⟨hc0, hf0, hz0⟩ := bl_at hb (k := w.heap.size) (by first | assumption | (simp; done) | (simp; omega)); obtain ⟨hc1, hf1, hz1⟩ := bl_at hb (k := w.heap.size + 1) (by first | assumption | (simp; done) | (simp; omega))) | (go_at_call 53; refine (fits_any _ _ _ _ _ _ _ _ H1.out h2).mono ?_; rintro e w' ⟨rfl, hb⟩; obtain ⟨hc0, hf0, hz0⟩ := bl_at hb (k := w.heap.size) (by first | assumption | (simp; done) | (simp; omega)); obtain ⟨hc1, hf1, hz1⟩ := bl_at hb (k := w.heap.size + 1) (by first | assumption | (simp; done) | (simp; omega))))
    go_ret2
    exact ⟨by simp [fitV, H.out], by repeat (first | (with_reducible exact Below.refl _ _) | (with_reducible assumption) | (with_reducible refine bl_alloc ?_ _) | (with_reducible refine bl_drew ?_) | (with_reducible refine bl_drewN ?_ _) | ((with_reducible refine bl_set ?_ ?hb _); (case hb => first | (simp; done) | omega | (simp; omega))) | (with_reducible refine bl_trans ?_ (by assumption)))⟩
  · have h' : askB l t a p q r s = false := by simpa using h
    have H := Lib.hid h'
    clear h h'
    by_cases h4 : metalB l t a = true
    · have h5 : blendB p q r s = false := by have := H.out; simpa [askB, h4] using this
      go_enter Try.func26, Try.ntmps26
      go_wp2_with (first | (go_at_call 52; refine (isMetal_any _ _ _ _).mono ?_; rintro e w' ⟨rfl, hb⟩; obtain ⟨hc0, hf0, hz0⟩ := bl_at hb (k := w.heap.size) (by first | assumption | (simp; done) | (simp; omega)); obtain ⟨hc1, hf1, hz1⟩ := bl_at hb (k := w.heap.size + 1) (by first | assumption | (simp; done) | (simp; omega))) | (go_at_call 16; refine (implIsBlend_any _ _ _ _ _).mono ?_; rintro e w' ⟨rfl, hb⟩; obtain ⟨hc0, hf0, hz0⟩ := bl_at hb (k := w.heap.size) (by first | assumption | (simp; done) | (simp; omega)); obtain ⟨hc1, hf1, hz1⟩ := bl_at hb (k := w.heap.size + 1) (by first | assumption | (simp; done) | (simp; omega))))
      go_ret2
      exact ⟨by simp [fitV, H.out], by repeat (first | (with_reducible exact Below.refl _ _) | (with_reducible assumption) | (with_reducible refine bl_alloc ?_ _) | (with_reducible refine bl_drew ?_) | (with_reducible refine bl_drewN ?_ _) | ((with_reducible refine bl_set ?_ ?hb _); (case hb => first | (simp; done) | omega | (simp; omega))) | (with_reducible refine bl_trans ?_ (by assumption)))⟩
    · have h4' : metalB l t a = false := by simpa using h4
      clear h4
      go_enter Try.func26, Try.ntmps26
      go_wp2_with (first | (go_at_call 52; refine (isMetal_any _ _ _ _).mono ?_; rintro e w' ⟨rfl, hb⟩; obtain ⟨hc0, hf0, hz0⟩ := bl_at hb (k := w.heap.size) (by first | assumption | (simp; done) | (simp; omega)); obtain ⟨hc1, hf1, hz1⟩ := bl_at hb (k := w.heap.size + 1) (by first | assumption | (simp; done) | (simp; omega))))
      go_ret2
      exact ⟨by simp [fitV, H.out], by repeat (first | (with_reducible exact Below.refl _ _) | (with_reducible assumption) | (with_reducible refine bl_alloc ?_ _) | (with_reducible refine bl_drew ?_) | (with_reducible refine bl_drewN ?_ _) | ((with_reducible refine bl_set ?_ ?hb _); (case hb => first | (simp; done) | omega | (simp; omega))) | (with_reducible refine bl_trans ?_ (by assumption)))⟩
end Go.Proofs.Ytnhdgjcobngolaa
