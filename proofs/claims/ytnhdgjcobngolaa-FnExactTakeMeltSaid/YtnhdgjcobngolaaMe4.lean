/-
  Contracts of TakeMelt: an alloy divided.
-/
import Derived.Test.YtnhdgjcobngolaaMe3
import Derived.BigRegion
namespace Go.Proofs.Ytnhdgjcobngolaa
open Go.RowKit
set_option linter.unusedVariables false
attribute [local go_sem ↓] Go.wp_at_zero Go.wp_at_succ

/-! ### the numbers -/
theorem share_bd {t g S : Int} (t0 : 0 ≤ t) (t1 : t ≤ 1000000) (g0 : 0 ≤ g) (g1 : g ≤ S) (S1 : S ≤ 3000000) : 0 ≤ t * g ∧ t * g ≤ 3000000000000 ∧ 0 ≤ t * g / S ∧ t * g / S ≤ t := by
  have h0 : 0 ≤ t * g := Int.mul_nonneg t0 g0
  have h1 : t * g ≤ 1000000 * 3000000 := Int.mul_le_mul t1 (by omega) g0 (by omega)
  refine ⟨h0, by omega, Int.ediv_nonneg h0 (by omega), ?_⟩
  by_cases hS : S = 0
  · subst hS; simp; omega
  · have h2 : t * g ≤ t * S := Int.mul_le_mul_of_nonneg_left g1 t0
    calc t * g / S ≤ t * S / S := Int.ediv_le_ediv (by omega) h2
      _ = t := Int.mul_ediv_cancel _ hS
theorem share_sum {t a g S : Int} (t0 : 0 ≤ t) (a0 : 0 ≤ a) (g0 : 0 ≤ g) (hS : t + a ≤ S) : t * g / S + a * g / S ≤ g := by
  by_cases h : S = 0
  · subst h; simp; omega
  · have hp : 0 < S := by omega
    have h1 : t * g / S * S ≤ t * g := Int.ediv_mul_le _ h
    have h2 : a * g / S * S ≤ a * g := Int.ediv_mul_le _ h
    have h3 : (t + a) * g ≤ S * g := Int.mul_le_mul_of_nonneg_right hS g0
    have h4 : (t * g / S + a * g / S) * S ≤ g * S := by
      rw [Int.add_mul]
      rw [Int.add_mul] at h3
      rw [Int.mul_comm g S]
      omega
    exact Int.le_of_mul_le_mul_right h4 hp
def tkT (l t a g : Int) : Int := t * g / (l + t + a)
def tkA (l t a g : Int) : Int := a * g / (l + t + a)
def tkL (l t a g : Int) : Int := g - tkT l t a g - tkA l t a g
def tkB (l t a g : Int) : Bool := meltB l t a && inB g 0 (l + t + a) && decide (tkL l t a g ≤ l)
def tkV (b : Bool) (x : Int) : Int := if b then x else 0
def tkOut (l t a g : Int) : Value := .tuple #[.agg #[.int .i64 (tkV (tkB l t a g) (tkL l t a g)), .int .i64 (tkV (tkB l t a g) (tkT l t a g)), .int .i64 (tkV (tkB l t a g) (tkA l t a g))], .agg #[.int .i64 (tkV (tkB l t a g) (l - tkL l t a g)), .int .i64 (tkV (tkB l t a g) (t - tkT l t a g)), .int .i64 (tkV (tkB l t a g) (a - tkA l t a g))], .bool (tkB l t a g)]
theorem tkOut_no {l t a g : Int} (h : tkB l t a g = false) : tkOut l t a g = .tuple #[.agg #[.int .i64 0, .int .i64 0, .int .i64 0], .agg #[.int .i64 0, .int .i64 0, .int .i64 0], .bool false] := by simp [tkOut, h, tkV]
theorem tkOut_yes {l t a g : Int} (h : tkB l t a g = true) : tkOut l t a g = .tuple #[.agg #[.int .i64 (tkL l t a g), .int .i64 (tkT l t a g), .int .i64 (tkA l t a g)], .agg #[.int .i64 (l - tkL l t a g), .int .i64 (t - tkT l t a g), .int .i64 (a - tkA l t a g)], .bool true] := by simp [tkOut, h, tkV]
theorem ret_val {a b : Value} (h : a = b) : Ending.returned a = .returned b := by rw [h]

set_option maxHeartbeats 400000 in
theorem specTake_no (l t a g : Int) (w : World) (hno : meltB l t a = false ∨ meltB l t a = true ∧ inB g 0 (l + t + a) = false) : Calls Try.prog 27 #[.agg #[.int .i64 l, .int .i64 t, .int .i64 a], .int .i64 g] w fun e w' => e = .returned (tkOut l t a g) ∧ Below w.heap.size w w' := by
  have HB := Lib.hid (show tkB l t a g = false by rcases hno with h | ⟨h, h'⟩ <;> simp [tkB, *])
  rcases hno with h | ⟨h, h'⟩
  · go_enter Try.func27, Try.ntmps27
    go_wp2_with (first | (go_at_call 42; refine (meGood_any _ _ _ _).mono ?_; rintro e w' ⟨rfl, hb⟩; obtain ⟨hc0, hf0, hz0⟩ := bl_at hb (k := w.heap.size) (by first | assumption | (simp; done) | (simp; omega)); obtain ⟨hc1, hf1, hz1⟩ := bl_at hb (k := w.heap.size + 1) (by first | assumption | (simp; done) | (simp; omega)); obtain ⟨hc2, hf2, hz2⟩ := bl_at hb (k := w.heap.size + 1 + 1) (by first | assumption | (simp; done) | (simp; omega))))
    refine bodyPost_ret (v := .tuple #[.agg #[.int .i64 0, .int .i64 0, .int .i64 0], .agg #[.int .i64 0, .int .i64 0, .int .i64 0], .bool false]) (by simp [results, Try.results27, go_sem, *]) rfl ⟨ret_val (tkOut_no HB.out).symm, by repeat (first | (with_reducible exact Below.refl _ _) | (with_reducible assumption) | (with_reducible refine bl_alloc ?_ _) | (with_reducible refine bl_drew ?_) | (with_reducible refine bl_drewN ?_ _) | ((with_reducible refine bl_set ?_ ?hb _); (case hb => first | (simp; done) | omega | (simp; omega))) | (with_reducible refine bl_trans ?_ (by assumption)))⟩
  · have HM := Lib.hid h
    go_enter Try.func27, Try.ntmps27
    go_wp2_with (first | (go_at_call 42; refine (meGood_any _ _ _ _).mono ?_; rintro e w' ⟨rfl, hb⟩; obtain ⟨hc0, hf0, hz0⟩ := bl_at hb (k := w.heap.size) (by first | assumption | (simp; done) | (simp; omega)); obtain ⟨hc1, hf1, hz1⟩ := bl_at hb (k := w.heap.size + 1) (by first | assumption | (simp; done) | (simp; omega)); obtain ⟨hc2, hf2, hz2⟩ := bl_at hb (k := w.heap.size + 1 + 1) (by first | assumption | (simp; done) | (simp; omega))) | (go_at_call 44; refine (meGrams_any _ _ _ _ HM.out).mono ?_; rintro e w' ⟨rfl, hb⟩; obtain ⟨hc0, hf0, hz0⟩ := bl_at hb (k := w.heap.size) (by first | assumption | (simp; done) | (simp; omega)); obtain ⟨hc1, hf1, hz1⟩ := bl_at hb (k := w.heap.size + 1) (by first | assumption | (simp; done) | (simp; omega)); obtain ⟨hc2, hf2, hz2⟩ := bl_at hb (k := w.heap.size + 1 + 1) (by first | assumption | (simp; done) | (simp; omega))) | (go_at_call 46; refine (l1In_any _ _ _ _).mono ?_; rintro e w' ⟨rfl, rfl⟩))
    refine bodyPost_ret (v := .tuple #[.agg #[.int .i64 0, .int .i64 0, .int .i64 0], .agg #[.int .i64 0, .int .i64 0, .int .i64 0], .bool false]) (by simp [results, Try.results27, go_sem, *]) rfl ⟨ret_val (tkOut_no HB.out).symm, by repeat (first | (with_reducible exact Below.refl _ _) | (with_reducible assumption) | (with_reducible refine bl_alloc ?_ _) | (with_reducible refine bl_drew ?_) | (with_reducible refine bl_drewN ?_ _) | ((with_reducible refine bl_set ?_ ?hb _); (case hb => first | (simp; done) | omega | (simp; omega))) | (with_reducible refine bl_trans ?_ (by assumption)))⟩
set_option maxHeartbeats 1000000 in
theorem specTake_yes (l t a g : Int) (w : World) (h : meltB l t a = true) (hg : inB g 0 (l + t + a) = true) (hS : 0 < l + t + a) : Calls Try.prog 27 #[.agg #[.int .i64 l, .int .i64 t, .int .i64 a], .int .i64 g] w fun e w' => e = .returned (tkOut l t a g) ∧ Below w.heap.size w w' := by
  obtain ⟨⟨h1, h2⟩, ⟨h3, h4⟩, h5, h6⟩ := melt_iff.1 h
  obtain ⟨g0, g1⟩ := inB_iff.1 hg
  have HM := Lib.hid h
  obtain ⟨b1, b2, b3, b4⟩ := share_bd h3 h4 g0 g1 (by omega)
  obtain ⟨b5, b6, b7, b8⟩ := share_bd h5 h6 g0 g1 (by omega)
  have b9 := share_sum (S := l + t + a) h3 h5 g0 (by omega)
  by_cases hL : g - t * g / (l + t + a) - a * g / (l + t + a) ≤ l
  · have HB := Lib.hid (show tkB l t a g = true by simp [tkB, h, hg, tkL, tkT, tkA, hL])
    go_enter Try.func27, Try.ntmps27
    go_wp2_with fail; refine (meGood_any _ _ _ _).mono ?_; rintro e w1 ⟨rfl, hb⟩
    obtain ⟨hc0, hf0, hz0⟩ := bl_at hb (k := w.heap.size) (by first | assumption | (simp; done) | (simp; omega)); obtain ⟨hc1, hf1, hz1⟩ := bl_at hb (k := w.heap.size + 1) (by first | assumption | (simp; done) | (simp; omega)); obtain ⟨hc2, hf2, hz2⟩ := bl_at hb (k := w.heap.size + 1 + 1) (by first | assumption | (simp; done) | (simp; omega))
    go_wp2_with fail; refine (meGrams_any _ _ _ _ HM.out).mono ?_; rintro e w2 ⟨rfl, hb2⟩
    have hb := bl_trans hb hb2
    clear hc0 hf0 hc1 hf1 hc2 hf2
    obtain ⟨hc0, hf0, hz0⟩ := bl_at hb (k := w.heap.size) (by first | assumption | (simp; done) | (simp; omega)); obtain ⟨hc1, hf1, hz1⟩ := bl_at hb (k := w.heap.size + 1) (by first | assumption | (simp; done) | (simp; omega)); obtain ⟨hc2, hf2, hz2⟩ := bl_at hb (k := w.heap.size + 1 + 1) (by first | assumption | (simp; done) | (simp; omega))
    go_wp2_with (go_at_call 46; refine (l1In_any _ _ _ _).mono ?_; rintro e w' ⟨rfl, rfl⟩)
    refine (meGrams_any _ _ _ _ HM.out).mono ?_; rintro e w3 ⟨rfl, hb3⟩
    obtain ⟨hcO, hfO, hzO⟩ := bl_at hb3 (k := w2.heap.size) (by simp)
    have hbb := bl_trans (bl_alloc hb _) hb3
    clear hc0 hf0 hc1 hf1 hc2 hf2
    have hb := hbb
    obtain ⟨hc0, hf0, hz0⟩ := bl_at hb (k := w.heap.size) (by first | assumption | (simp; done) | (simp; omega)); obtain ⟨hc1, hf1, hz1⟩ := bl_at hb (k := w.heap.size + 1) (by first | assumption | (simp; done) | (simp; omega)); obtain ⟨hc2, hf2, hz2⟩ := bl_at hb (k := w.heap.size + 1 + 1) (by first | assumption | (simp; done) | (simp; omega))
    go_wp2
    have hn0 : w.heap.size ≠ w2.heap.size := by omega
    have hn1 : w.heap.size + 1 ≠ w2.heap.size := by omega
    have hn2 : w.heap.size + 1 + 1 ≠ w2.heap.size := by omega
    obtain ⟨W, hW⟩ : ∃ W, W = (((w3.setCell ⟨w2.heap.size, 1, none⟩ (.int .i64 (t * g / (l + t + a)))).setCell ⟨w2.heap.size, 2, none⟩ (.int .i64 (a * g / (l + t + a)))).setCell ⟨w2.heap.size, 0, none⟩ (.int .i64 (g - t * g / (l + t + a) - a * g / (l + t + a)))) := ⟨_, rfl⟩
    have c0 : W.cell? ⟨w.heap.size, 0, none⟩ = some (.int .i64 l) := by rw [hW]; go_simp
    have c1 : W.cell? ⟨w.heap.size, 1, none⟩ = some (.int .i64 t) := by rw [hW]; go_simp
    have c2 : W.cell? ⟨w.heap.size, 2, none⟩ = some (.int .i64 a) := by rw [hW]; go_simp
    have c3 : W.cell? ⟨w2.heap.size, 0, none⟩ = some (.int .i64 (g - t * g / (l + t + a) - a * g / (l + t + a))) := by rw [hW]; go_simp
    have c4 : W.cell? ⟨w2.heap.size, 1, none⟩ = some (.int .i64 (t * g / (l + t + a))) := by rw [hW]; go_simp
    have c5 : W.cell? ⟨w2.heap.size, 2, none⟩ = some (.int .i64 (a * g / (l + t + a))) := by rw [hW]; go_simp
    have d1 : ∀ o, o < 3 → W.cell? ⟨w.heap.size + 1, o, none⟩ = some (.int .i64 0) := by
      intro o ho
      match o, ho with
      | 0, _ => rw [hW]; go_simp
      | 1, _ => rw [hW]; go_simp
      | 2, _ => rw [hW]; go_simp
    have d2 : ∀ o, o < 3 → W.cell? ⟨w.heap.size + 1 + 1, o, none⟩ = some (.int .i64 0) := by
      intro o ho
      match o, ho with
      | 0, _ => rw [hW]; go_simp
      | 1, _ => rw [hW]; go_simp
      | 2, _ => rw [hW]; go_simp
    have f1 : ∀ o, W.frozen? ⟨w.heap.size + 1, o, none⟩ = false := by intro o; rw [hW]; go_simp
    have f2 : ∀ o, W.frozen? ⟨w.heap.size + 1 + 1, o, none⟩ = false := by intro o; rw [hW]; go_simp
    have hbW : Below w.heap.size w W := by rw [hW]; exact by repeat (first | (with_reducible exact Below.refl _ _) | (with_reducible assumption) | (with_reducible refine bl_alloc ?_ _) | (with_reducible refine bl_drew ?_) | (with_reducible refine bl_drewN ?_ _) | ((with_reducible refine bl_set ?_ ?hb _); (case hb => first | (simp; done) | omega | (simp; omega))) | (with_reducible refine bl_trans ?_ (by assumption)))
    rw [← hW]
    clear hW hc0 hf0 hc1 hf1 hc2 hf2 hcO hfO hb
    have hk1 : w.heap.size ≠ w.heap.size + 1 := by omega
    have hk2 : w.heap.size ≠ w.heap.size + 1 + 1 := by omega
    have hk3 : w.heap.size + 1 ≠ w.heap.size := by omega
    have hk4 : w.heap.size + 1 + 1 ≠ w.heap.size := by omega
    have hn1' : w2.heap.size ≠ w.heap.size + 1 := by omega
    have hn2' : w2.heap.size ≠ w.heap.size + 1 + 1 := by omega
    have e1 : IntKind.i64.wrap (l - (g - t * g / (l + t + a) - a * g / (l + t + a))) = l - (g - t * g / (l + t + a) - a * g / (l + t + a)) := IntWalk.i64_in _ (by omega)
    have e2 : IntKind.i64.wrap (t - t * g / (l + t + a)) = t - t * g / (l + t + a) := IntWalk.i64_in _ (by omega)
    have e3 : IntKind.i64.wrap (a - a * g / (l + t + a)) = a - a * g / (l + t + a) := IntWalk.i64_in _ (by omega)
    go_region_held3 (fun w' => w'.cell? ⟨w.heap.size, 0, none⟩ = some (.int .i64 l) ∧ w'.cell? ⟨w.heap.size, 1, none⟩ = some (.int .i64 t) ∧ w'.cell? ⟨w.heap.size, 2, none⟩ = some (.int .i64 a) ∧ w'.cell? ⟨w2.heap.size, 0, none⟩ = some (.int .i64 (g - t * g / (l + t + a) - a * g / (l + t + a))) ∧ w'.cell? ⟨w2.heap.size, 1, none⟩ = some (.int .i64 (t * g / (l + t + a))) ∧ w'.cell? ⟨w2.heap.size, 2, none⟩ = some (.int .i64 (a * g / (l + t + a)))) (go_keep) (fail)
    clear e1 e2 e3
    go_wp2
    refine bodyPost_ret (v := .tuple #[.agg #[.int .i64 (g - t * g / (l + t + a) - a * g / (l + t + a)), .int .i64 (t * g / (l + t + a)), .int .i64 (a * g / (l + t + a))], .agg #[.int .i64 (l - (g - t * g / (l + t + a) - a * g / (l + t + a))), .int .i64 (t - t * g / (l + t + a)), .int .i64 (a - a * g / (l + t + a))], .bool true]) (by simp [results, Try.results27, go_sem, *]) rfl ⟨ret_val (tkOut_yes HB.out).symm, by repeat (first | (with_reducible exact Below.refl _ _) | (with_reducible assumption) | (with_reducible refine bl_alloc ?_ _) | (with_reducible refine bl_drew ?_) | (with_reducible refine bl_drewN ?_ _) | ((with_reducible refine bl_set ?_ ?hb _); (case hb => first | (simp; done) | omega | (simp; omega))) | (with_reducible refine bl_trans ?_ (by assumption)))⟩
  · have HB := Lib.hid (show tkB l t a g = false by unfold tkB; rw [h, hg]; exact decide_eq_false (by unfold tkL tkT tkA; omega))
    go_enter Try.func27, Try.ntmps27
    go_wp2_with fail; refine (meGood_any _ _ _ _).mono ?_; rintro e w1 ⟨rfl, hb⟩
    obtain ⟨hc0, hf0, hz0⟩ := bl_at hb (k := w.heap.size) (by first | assumption | (simp; done) | (simp; omega)); obtain ⟨hc1, hf1, hz1⟩ := bl_at hb (k := w.heap.size + 1) (by first | assumption | (simp; done) | (simp; omega)); obtain ⟨hc2, hf2, hz2⟩ := bl_at hb (k := w.heap.size + 1 + 1) (by first | assumption | (simp; done) | (simp; omega))
    go_wp2_with fail; refine (meGrams_any _ _ _ _ HM.out).mono ?_; rintro e w2 ⟨rfl, hb2⟩
    have hb := bl_trans hb hb2
    clear hc0 hf0 hc1 hf1 hc2 hf2
    obtain ⟨hc0, hf0, hz0⟩ := bl_at hb (k := w.heap.size) (by first | assumption | (simp; done) | (simp; omega)); obtain ⟨hc1, hf1, hz1⟩ := bl_at hb (k := w.heap.size + 1) (by first | assumption | (simp; done) | (simp; omega)); obtain ⟨hc2, hf2, hz2⟩ := bl_at hb (k := w.heap.size + 1 + 1) (by first | assumption | (simp; done) | (simp; omega))
    go_wp2_with (go_at_call 46; refine (l1In_any _ _ _ _).mono ?_; rintro e w' ⟨rfl, rfl⟩)
    refine (meGrams_any _ _ _ _ HM.out).mono ?_; rintro e w3 ⟨rfl, hb3⟩
    obtain ⟨hcO, hfO, hzO⟩ := bl_at hb3 (k := w2.heap.size) (by simp)
    have hbb := bl_trans (bl_alloc hb _) hb3
    clear hc0 hf0 hc1 hf1 hc2 hf2
    have hb := hbb
    obtain ⟨hc0, hf0, hz0⟩ := bl_at hb (k := w.heap.size) (by first | assumption | (simp; done) | (simp; omega)); obtain ⟨hc1, hf1, hz1⟩ := bl_at hb (k := w.heap.size + 1) (by first | assumption | (simp; done) | (simp; omega)); obtain ⟨hc2, hf2, hz2⟩ := bl_at hb (k := w.heap.size + 1 + 1) (by first | assumption | (simp; done) | (simp; omega))
    go_wp2
    refine bodyPost_ret (v := .tuple #[.agg #[.int .i64 0, .int .i64 0, .int .i64 0], .agg #[.int .i64 0, .int .i64 0, .int .i64 0], .bool false]) (by simp [results, Try.results27, go_sem, *]) rfl ⟨ret_val (tkOut_no HB.out).symm, by repeat (first | (with_reducible exact Below.refl _ _) | (with_reducible assumption) | (with_reducible refine bl_alloc ?_ _) | (with_reducible refine bl_drew ?_) | (with_reducible refine bl_drewN ?_ _) | ((with_reducible refine bl_set ?_ ?hb _); (case hb => first | (simp; done) | omega | (simp; omega))) | (with_reducible refine bl_trans ?_ (by assumption)))⟩
set_option maxHeartbeats 1000000 in
theorem specTake_zero (w : World) : Calls Try.prog 27 #[.agg #[.int .i64 0, .int .i64 0, .int .i64 0], .int .i64 0] w fun e w' => e = .returned (.tuple #[.agg #[.int .i64 0, .int .i64 0, .int .i64 0], .agg #[.int .i64 0, .int .i64 0, .int .i64 0], .bool true]) ∧ Below w.heap.size w w' := by
  have HM := Lib.hid (show meltB 0 0 0 = true by decide)
  have HG := Lib.hid (show inB 0 0 0 = true by decide)
  have h := HM.out
  have hg := HG.out
  go_enter Try.func27, Try.ntmps27
  go_wp2_with fail; refine (meGood_any _ _ _ _).mono ?_; rintro e w1 ⟨rfl, hb⟩
  obtain ⟨hc0, hf0, hz0⟩ := bl_at hb (k := w.heap.size) (by first | assumption | (simp; done) | (simp; omega)); obtain ⟨hc1, hf1, hz1⟩ := bl_at hb (k := w.heap.size + 1) (by first | assumption | (simp; done) | (simp; omega)); obtain ⟨hc2, hf2, hz2⟩ := bl_at hb (k := w.heap.size + 1 + 1) (by first | assumption | (simp; done) | (simp; omega))
  go_wp2_with fail; refine (meGrams_any _ _ _ _ HM.out).mono ?_; rintro e w2 ⟨rfl, hb2⟩
  have hb := bl_trans hb hb2
  clear hc0 hf0 hc1 hf1 hc2 hf2
  obtain ⟨hc0, hf0, hz0⟩ := bl_at hb (k := w.heap.size) (by first | assumption | (simp; done) | (simp; omega)); obtain ⟨hc1, hf1, hz1⟩ := bl_at hb (k := w.heap.size + 1) (by first | assumption | (simp; done) | (simp; omega)); obtain ⟨hc2, hf2, hz2⟩ := bl_at hb (k := w.heap.size + 1 + 1) (by first | assumption | (simp; done) | (simp; omega))
  go_wp2_with (go_at_call 46; refine (l1In_any _ _ _ _).mono ?_; rintro e w' ⟨rfl, rfl⟩)
  refine (meGrams_any _ _ _ _ HM.out).mono ?_; rintro e w3 ⟨rfl, hb3⟩
  obtain ⟨hcO, hfO, hzO⟩ := bl_at hb3 (k := w2.heap.size) (by simp)
  have hbb := bl_trans (bl_alloc hb _) hb3
  clear hc0 hf0 hc1 hf1 hc2 hf2
  have hb := hbb
  obtain ⟨hc0, hf0, hz0⟩ := bl_at hb (k := w.heap.size) (by first | assumption | (simp; done) | (simp; omega)); obtain ⟨hc1, hf1, hz1⟩ := bl_at hb (k := w.heap.size + 1) (by first | assumption | (simp; done) | (simp; omega)); obtain ⟨hc2, hf2, hz2⟩ := bl_at hb (k := w.heap.size + 1 + 1) (by first | assumption | (simp; done) | (simp; omega))
  go_wp2
  have hn0 : w.heap.size ≠ w2.heap.size := by omega
  have hn1 : w.heap.size + 1 ≠ w2.heap.size := by omega
  have hn2 : w.heap.size + 1 + 1 ≠ w2.heap.size := by omega
  obtain ⟨W, hW⟩ : ∃ W, W = (w3.setCell ⟨w2.heap.size, 0, none⟩ (.int .i64 0)) := ⟨_, rfl⟩
  have c0 : W.cell? ⟨w.heap.size, 0, none⟩ = some (.int .i64 0) := by rw [hW]; go_simp
  have c1 : W.cell? ⟨w.heap.size, 1, none⟩ = some (.int .i64 0) := by rw [hW]; go_simp
  have c2 : W.cell? ⟨w.heap.size, 2, none⟩ = some (.int .i64 0) := by rw [hW]; go_simp
  have c3 : W.cell? ⟨w2.heap.size, 0, none⟩ = some (.int .i64 0) := by rw [hW]; go_simp
  have c4 : W.cell? ⟨w2.heap.size, 1, none⟩ = some (.int .i64 0) := by rw [hW]; go_simp
  have c5 : W.cell? ⟨w2.heap.size, 2, none⟩ = some (.int .i64 0) := by rw [hW]; go_simp
  have d1 : ∀ o, o < 3 → W.cell? ⟨w.heap.size + 1, o, none⟩ = some (.int .i64 0) := by
    intro o ho
    match o, ho with
    | 0, _ => rw [hW]; go_simp
    | 1, _ => rw [hW]; go_simp
    | 2, _ => rw [hW]; go_simp
  have d2 : ∀ o, o < 3 → W.cell? ⟨w.heap.size + 1 + 1, o, none⟩ = some (.int .i64 0) := by
    intro o ho
    match o, ho with
    | 0, _ => rw [hW]; go_simp
    | 1, _ => rw [hW]; go_simp
    | 2, _ => rw [hW]; go_simp
  have f1 : ∀ o, W.frozen? ⟨w.heap.size + 1, o, none⟩ = false := by intro o; rw [hW]; go_simp
  have f2 : ∀ o, W.frozen? ⟨w.heap.size + 1 + 1, o, none⟩ = false := by intro o; rw [hW]; go_simp
  have hbW : Below w.heap.size w W := by rw [hW]; exact by repeat (first | (with_reducible exact Below.refl _ _) | (with_reducible assumption) | (with_reducible refine bl_alloc ?_ _) | (with_reducible refine bl_drew ?_) | (with_reducible refine bl_drewN ?_ _) | ((with_reducible refine bl_set ?_ ?hb _); (case hb => first | (simp; done) | omega | (simp; omega))) | (with_reducible refine bl_trans ?_ (by assumption)))
  rw [← hW]
  clear hW hc0 hf0 hc1 hf1 hc2 hf2 hcO hfO hb
  have hk1 : w.heap.size ≠ w.heap.size + 1 := by omega
  have hk2 : w.heap.size ≠ w.heap.size + 1 + 1 := by omega
  have hk3 : w.heap.size + 1 ≠ w.heap.size := by omega
  have hk4 : w.heap.size + 1 + 1 ≠ w.heap.size := by omega
  have hn1' : w2.heap.size ≠ w.heap.size + 1 := by omega
  have hn2' : w2.heap.size ≠ w.heap.size + 1 + 1 := by omega
  have e1 : IntKind.i64.wrap 0 = 0 := by decide
  go_region_held3 (fun w' => w'.cell? ⟨w.heap.size, 0, none⟩ = some (.int .i64 0) ∧ w'.cell? ⟨w.heap.size, 1, none⟩ = some (.int .i64 0) ∧ w'.cell? ⟨w.heap.size, 2, none⟩ = some (.int .i64 0) ∧ w'.cell? ⟨w2.heap.size, 0, none⟩ = some (.int .i64 0) ∧ w'.cell? ⟨w2.heap.size, 1, none⟩ = some (.int .i64 0) ∧ w'.cell? ⟨w2.heap.size, 2, none⟩ = some (.int .i64 0)) (go_keep) (fail)
  go_wp2
  refine bodyPost_ret (v := .tuple #[.agg #[.int .i64 0, .int .i64 0, .int .i64 0], .agg #[.int .i64 0, .int .i64 0, .int .i64 0], .bool true]) (by simp [results, Try.results27, go_sem, *]) rfl ⟨rfl, by repeat (first | (with_reducible exact Below.refl _ _) | (with_reducible assumption) | (with_reducible refine bl_alloc ?_ _) | (with_reducible refine bl_drew ?_) | (with_reducible refine bl_drewN ?_ _) | ((with_reducible refine bl_set ?_ ?hb _); (case hb => first | (simp; done) | omega | (simp; omega))) | (with_reducible refine bl_trans ?_ (by assumption)))⟩
theorem tkOut_zero : tkOut 0 0 0 0 = .tuple #[.agg #[.int .i64 0, .int .i64 0, .int .i64 0], .agg #[.int .i64 0, .int .i64 0, .int .i64 0], .bool true] := by
  rw [tkOut_yes (by decide)]; rfl
theorem take_cases (l t a g : Int) : (meltB l t a = false ∨ meltB l t a = true ∧ inB g 0 (l + t + a) = false) ∨ (meltB l t a = true ∧ inB g 0 (l + t + a) = true ∧ 0 < l + t + a) ∨ (l = 0 ∧ t = 0 ∧ a = 0 ∧ g = 0) := by
  rcases hm : meltB l t a with _ | _
  · exact .inl (.inl rfl)
  · rcases hg : inB g 0 (l + t + a) with _ | _
    · exact .inl (.inr ⟨rfl, rfl⟩)
    · obtain ⟨⟨h1, h2⟩, ⟨h3, h4⟩, h5, h6⟩ := melt_iff.1 hm
      obtain ⟨g0, g1⟩ := inB_iff.1 hg
      by_cases hS : 0 < l + t + a
      · exact .inr (.inl ⟨rfl, rfl, hS⟩)
      · exact .inr (.inr ⟨by omega, by omega, by omega, by omega⟩)
theorem specTakeMelt_any (l t a g : Int) (w : World) : Calls Try.prog 27 #[.agg #[.int .i64 l, .int .i64 t, .int .i64 a], .int .i64 g] w fun e w' => e = .returned (tkOut l t a g) ∧ Below w.heap.size w w' := by
  rcases take_cases l t a g with h | ⟨h1, h2, h3⟩ | ⟨rfl, rfl, rfl, rfl⟩
  · exact specTake_no l t a g w h
  · exact specTake_yes l t a g w h1 h2 h3
  · rw [tkOut_zero]; exact specTake_zero w
end Go.Proofs.Ytnhdgjcobngolaa
