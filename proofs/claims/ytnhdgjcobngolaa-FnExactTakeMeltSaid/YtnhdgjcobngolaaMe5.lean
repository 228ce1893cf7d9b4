/-
  Contracts of TakeMelt, the program's: an alloy divided.
-/
import Derived.Test.YtnhdgjcobngolaaMe4
namespace Go.Proofs.Ytnhdgjcobngolaa
open Go.RowKit
set_option linter.unusedVariables false
attribute [local go_sem ↓] Go.wp_at_zero Go.wp_at_succ

theorem rest_melt {l t a g : Int} (h : meltB l t a = true) (hg : inB g 0 (l + t + a) = true) (hS : 0 < l + t + a) : meltB (l - tkL l t a g) (t - tkT l t a g) (a - tkA l t a g) = tkB l t a g := by
  obtain ⟨⟨h1, h2⟩, ⟨h3, h4⟩, h5, h6⟩ := melt_iff.1 h
  obtain ⟨g0, g1⟩ := inB_iff.1 hg
  obtain ⟨b1, b2, b3, b4⟩ := share_bd h3 h4 g0 g1 (by omega)
  obtain ⟨b5, b6, b7, b8⟩ := share_bd h5 h6 g0 g1 (by omega)
  have b9 := share_sum (S := l + t + a) h3 h5 g0 (by omega)
  unfold tkB
  rw [h, hg, Bool.eq_iff_iff]
  simp only [melt_iff, Bool.true_and, decide_eq_true_eq]
  unfold tkL tkT tkA
  omega
set_option maxHeartbeats 400000 in
theorem implTake_no (l t a g : Int) (w : World) (hno : meltB l t a = false ∨ meltB l t a = true ∧ inB g 0 (l + t + a) = false) : Calls Try.prog 28 #[.agg #[.int .i64 l, .int .i64 t, .int .i64 a], .int .i64 g] w fun e w' => e = .returned (tkOut l t a g) ∧ Below w.heap.size w w' := by
  have HB := Lib.hid (show tkB l t a g = false by rcases hno with h | ⟨h, h'⟩ <;> simp [tkB, *])
  rcases hno with h | ⟨h, h'⟩
  · go_enter Try.func28, Try.ntmps28
    go_wp2_with (first | (go_at_call 19; refine (implIsMelt_any _ _ _ _).mono ?_; rintro e w' ⟨rfl, hb⟩; obtain ⟨hc0, hf0, hz0⟩ := bl_at hb (k := w.heap.size) (by first | assumption | (simp; done) | (simp; omega)); obtain ⟨hc1, hf1, hz1⟩ := bl_at hb (k := w.heap.size + 1) (by first | assumption | (simp; done) | (simp; omega)); obtain ⟨hc2, hf2, hz2⟩ := bl_at hb (k := w.heap.size + 1 + 1) (by first | assumption | (simp; done) | (simp; omega))))
    refine bodyPost_ret (v := .tuple #[.agg #[.int .i64 0, .int .i64 0, .int .i64 0], .agg #[.int .i64 0, .int .i64 0, .int .i64 0], .bool false]) (by simp [results, Try.results28, go_sem, *]) rfl ⟨ret_val (tkOut_no HB.out).symm, by repeat (first | (with_reducible exact Below.refl _ _) | (with_reducible assumption) | (with_reducible refine bl_alloc ?_ _) | (with_reducible refine bl_drew ?_) | (with_reducible refine bl_drewN ?_ _) | ((with_reducible refine bl_set ?_ ?hb _); (case hb => first | (simp; done) | omega | (simp; omega))) | (with_reducible refine bl_trans ?_ (by assumption)))⟩
  · have HM := Lib.hid h
    go_enter Try.func28, Try.ntmps28
    go_wp2_with (first | (go_at_call 19; refine (implIsMelt_any _ _ _ _).mono ?_; rintro e w' ⟨rfl, hb⟩; obtain ⟨hc0, hf0, hz0⟩ := bl_at hb (k := w.heap.size) (by first | assumption | (simp; done) | (simp; omega)); obtain ⟨hc1, hf1, hz1⟩ := bl_at hb (k := w.heap.size + 1) (by first | assumption | (simp; done) | (simp; omega)); obtain ⟨hc2, hf2, hz2⟩ := bl_at hb (k := w.heap.size + 1 + 1) (by first | assumption | (simp; done) | (simp; omega))) | (go_at_call 45; refine (grams_any _ _ _ _ HM.out).mono ?_; rintro e w' ⟨rfl, hb⟩; obtain ⟨hc0, hf0, hz0⟩ := bl_at hb (k := w.heap.size) (by first | assumption | (simp; done) | (simp; omega)); obtain ⟨hc1, hf1, hz1⟩ := bl_at hb (k := w.heap.size + 1) (by first | assumption | (simp; done) | (simp; omega)); obtain ⟨hc2, hf2, hz2⟩ := bl_at hb (k := w.heap.size + 1 + 1) (by first | assumption | (simp; done) | (simp; omega))) | (go_at_call 48; refine (within_any _ _ _ _).mono ?_; rintro e w' ⟨rfl, rfl⟩))
    refine bodyPost_ret (v := .tuple #[.agg #[.int .i64 0, .int .i64 0, .int .i64 0], .agg #[.int .i64 0, .int .i64 0, .int .i64 0], .bool false]) (by simp [results, Try.results28, go_sem, *]) rfl ⟨ret_val (tkOut_no HB.out).symm, by repeat (first | (with_reducible exact Below.refl _ _) | (with_reducible assumption) | (with_reducible refine bl_alloc ?_ _) | (with_reducible refine bl_drew ?_) | (with_reducible refine bl_drewN ?_ _) | ((with_reducible refine bl_set ?_ ?hb _); (case hb => first | (simp; done) | omega | (simp; omega))) | (with_reducible refine bl_trans ?_ (by assumption)))⟩
set_option maxHeartbeats 1000000 in
theorem implTake_yes (l t a g : Int) (w : World) (h : meltB l t a = true) (hg : inB g 0 (l + t + a) = true) (hS : 0 < l + t + a) (hp : 0 < g) : Calls Try.prog 28 #[.agg #[.int .i64 l, .int .i64 t, .int .i64 a], .int .i64 g] w fun e w' => e = .returned (tkOut l t a g) ∧ Below w.heap.size w w' := by
  obtain ⟨⟨h1, h2⟩, ⟨h3, h4⟩, h5, h6⟩ := melt_iff.1 h
  obtain ⟨g0, g1⟩ := inB_iff.1 hg
  have HM := Lib.hid h
  have HR := Lib.hid (rest_melt h hg hS)
  unfold tkL tkT tkA at HR
  obtain ⟨b1, b2, b3, b4⟩ := share_bd h3 h4 g0 g1 (by omega)
  obtain ⟨b5, b6, b7, b8⟩ := share_bd h5 h6 g0 g1 (by omega)
  have b9 := share_sum (S := l + t + a) h3 h5 g0 (by omega)
  go_enter Try.func28, Try.ntmps28
  go_wp2_with fail; refine (implIsMelt_any _ _ _ _).mono ?_; rintro e w1 ⟨rfl, hb⟩
  obtain ⟨hc0, hf0, hz0⟩ := bl_at hb (k := w.heap.size) (by first | assumption | (simp; done) | (simp; omega)); obtain ⟨hc1, hf1, hz1⟩ := bl_at hb (k := w.heap.size + 1) (by first | assumption | (simp; done) | (simp; omega)); obtain ⟨hc2, hf2, hz2⟩ := bl_at hb (k := w.heap.size + 1 + 1) (by first | assumption | (simp; done) | (simp; omega))
  go_wp2_with fail; refine (grams_any _ _ _ _ HM.out).mono ?_; rintro e w2 ⟨rfl, hb2⟩
  have hb := bl_trans hb hb2
  clear hc0 hf0 hc1 hf1 hc2 hf2
  obtain ⟨hc0, hf0, hz0⟩ := bl_at hb (k := w.heap.size) (by first | assumption | (simp; done) | (simp; omega)); obtain ⟨hc1, hf1, hz1⟩ := bl_at hb (k := w.heap.size + 1) (by first | assumption | (simp; done) | (simp; omega)); obtain ⟨hc2, hf2, hz2⟩ := bl_at hb (k := w.heap.size + 1 + 1) (by first | assumption | (simp; done) | (simp; omega))
  go_wp2_with (go_at_call 48; refine (within_any _ _ _ _).mono ?_; rintro e w' ⟨rfl, rfl⟩)
  have hn0 : w.heap.size ≠ w2.heap.size := (by omega); have hn1 : w.heap.size + 1 ≠ w2.heap.size := (by omega); have hn2 : w.heap.size + 1 + 1 ≠ w2.heap.size := (by omega); have hm0 : w2.heap.size ≠ w.heap.size := (by omega); have hm1 : w2.heap.size ≠ w.heap.size + 1 := (by omega); have hm2 : w2.heap.size ≠ w.heap.size + 1 + 1 := (by omega)
  have hk1 : w.heap.size ≠ w.heap.size + 1 := (by omega); have hk2 : w.heap.size ≠ w.heap.size + 1 + 1 := (by omega); have hk3 : w.heap.size + 1 ≠ w.heap.size := (by omega); have hk4 : w.heap.size + 1 + 1 ≠ w.heap.size := (by omega)
  have e1 : IntKind.i64.wrap (t * g) = t * g := IntWalk.i64_in _ (by omega)
  have e2 : IntKind.i64.wrap (a * g) = a * g := IntWalk.i64_in _ (by omega)
  have e3 : (t * g).tdiv (l + t + a) = t * g / (l + t + a) := Int.tdiv_eq_ediv_of_nonneg b1
  have e4 : (a * g).tdiv (l + t + a) = a * g / (l + t + a) := Int.tdiv_eq_ediv_of_nonneg b5
  have e5 : IntKind.i64.wrap (t * g / (l + t + a)) = t * g / (l + t + a) := IntWalk.i64_in _ (by omega)
  have e6 : IntKind.i64.wrap (a * g / (l + t + a)) = a * g / (l + t + a) := IntWalk.i64_in _ (by omega)
  have e7 : l + t + a ≠ 0 := by omega
  go_region_held3 (fun w' => w'.cell? ⟨w.heap.size, 0, none⟩ = some (.int .i64 l) ∧ w'.cell? ⟨w.heap.size, 1, none⟩ = some (.int .i64 t) ∧ w'.cell? ⟨w.heap.size, 2, none⟩ = some (.int .i64 a)) (go_keep) (first | (go_at_call 45; refine (grams_any _ _ _ _ HM.out).mono ?_; rintro e w' ⟨rfl, hb⟩; obtain ⟨hc0, hf0, hz0⟩ := bl_at hb (k := w.heap.size) (by first | assumption | (simp; done) | (simp; omega)); obtain ⟨hc1, hf1, hz1⟩ := bl_at hb (k := w.heap.size + 1) (by first | assumption | (simp; done) | (simp; omega)); obtain ⟨hc2, hf2, hz2⟩ := bl_at hb (k := w.heap.size + 1 + 1) (by first | assumption | (simp; done) | (simp; omega)); obtain ⟨hcO, hfO, hzO⟩ := bl_at hb (k := w2.heap.size) (by first | assumption | (simp; done) | (simp; omega))))
  clear e1 e2 e3 e4 e5 e6 e7
  go_wp2_with fail
  obtain ⟨G, hG⟩ : ∃ G, G = w'.heap.size := ⟨_, rfl⟩
  refine (implIsMelt_any _ _ _ _).mono ?_
  rw [HR.out]
  rintro e w5 ⟨rfl, hb⟩
  obtain ⟨hc0, hf0, hz0⟩ := bl_at hb (k := w.heap.size) (by first | assumption | (simp; done) | (simp; omega)); obtain ⟨hc1, hf1, hz1⟩ := bl_at hb (k := w.heap.size + 1) (by first | assumption | (simp; done) | (simp; omega)); obtain ⟨hc2, hf2, hz2⟩ := bl_at hb (k := w.heap.size + 1 + 1) (by first | assumption | (simp; done) | (simp; omega))
  obtain ⟨hcO, hfO, hzO'⟩ := bl_at hb (k := w2.heap.size) (by simp; omega)
  obtain ⟨hcR, hfR, hzR⟩ := bl_at hb (k := w'.heap.size) (by simp)
  have hq0 : w.heap.size ≠ w'.heap.size := by omega
  have hq1 : w.heap.size + 1 ≠ w'.heap.size := by omega
  have hq2 : w.heap.size + 1 + 1 ≠ w'.heap.size := by omega
  have hq3 : w2.heap.size ≠ w'.heap.size := by omega
  have hp0 : w'.heap.size ≠ w.heap.size := by omega
  have hp1 : w'.heap.size ≠ w.heap.size + 1 := by omega
  have hp2 : w'.heap.size ≠ w.heap.size + 1 + 1 := by omega
  have hp3 : w'.heap.size ≠ w2.heap.size := by omega
  have c0 : w5.cell? ⟨w2.heap.size, 0, none⟩ = some (.int .i64 (g - t * g / (l + t + a) - a * g / (l + t + a))) := by go_simp
  have c1 : w5.cell? ⟨w2.heap.size, 1, none⟩ = some (.int .i64 (t * g / (l + t + a))) := by go_simp
  have c2 : w5.cell? ⟨w2.heap.size, 2, none⟩ = some (.int .i64 (a * g / (l + t + a))) := by go_simp
  have c3 : w5.cell? ⟨w'.heap.size, 0, none⟩ = some (.int .i64 (l - (g - t * g / (l + t + a) - a * g / (l + t + a)))) := by go_simp
  have c4 : w5.cell? ⟨w'.heap.size, 1, none⟩ = some (.int .i64 (t - t * g / (l + t + a))) := by go_simp
  have c5 : w5.cell? ⟨w'.heap.size, 2, none⟩ = some (.int .i64 (a - a * g / (l + t + a))) := by go_simp
  have d1 : ∀ o, o < 3 → w5.cell? ⟨w.heap.size + 1, o, none⟩ = some (.int .i64 0) := by
    intro o ho
    match o, ho with
    | 0, _ => go_simp
    | 1, _ => go_simp
    | 2, _ => go_simp
  have d2 : ∀ o, o < 3 → w5.cell? ⟨w.heap.size + 1 + 1, o, none⟩ = some (.int .i64 0) := by
    intro o ho
    match o, ho with
    | 0, _ => go_simp
    | 1, _ => go_simp
    | 2, _ => go_simp
  have f1 : ∀ o, w5.frozen? ⟨w.heap.size + 1, o, none⟩ = false := by intro o; go_simp
  have f2 : ∀ o, w5.frozen? ⟨w.heap.size + 1 + 1, o, none⟩ = false := by intro o; go_simp
  have hbW : Below w.heap.size w w5 := by repeat (first | (with_reducible exact Below.refl _ _) | (with_reducible assumption) | (with_reducible refine bl_alloc ?_ _) | (with_reducible refine bl_drew ?_) | (with_reducible refine bl_drewN ?_ _) | ((with_reducible refine bl_set ?_ ?hb _); (case hb => first | (simp; done) | omega | (simp; omega))) | (with_reducible refine bl_trans ?_ (by assumption)))
  clear hc0 hf0 hc1 hf1 hc2 hf2 hcO hfO hcR hfR hb
  rcases htk : tkB l t a g with _ | _
  · have HB := Lib.hid htk
    clear htk
    go_wp2
    refine bodyPost_ret (v := .tuple #[.agg #[.int .i64 0, .int .i64 0, .int .i64 0], .agg #[.int .i64 0, .int .i64 0, .int .i64 0], .bool false]) (by simp [results, Try.results28, go_sem, *]) rfl ⟨ret_val (tkOut_no HB.out).symm, by repeat (first | (with_reducible exact Below.refl _ _) | (with_reducible assumption) | (with_reducible refine bl_alloc ?_ _) | (with_reducible refine bl_drew ?_) | (with_reducible refine bl_drewN ?_ _) | ((with_reducible refine bl_set ?_ ?hb _); (case hb => first | (simp; done) | omega | (simp; omega))) | (with_reducible refine bl_trans ?_ (by assumption)))⟩
  · have HB := Lib.hid htk
    clear htk
    go_wp2
    go_region_held3 (fun w6 => w6.cell? ⟨w2.heap.size, 0, none⟩ = some (.int .i64 (g - t * g / (l + t + a) - a * g / (l + t + a))) ∧ w6.cell? ⟨w2.heap.size, 1, none⟩ = some (.int .i64 (t * g / (l + t + a))) ∧ w6.cell? ⟨w2.heap.size, 2, none⟩ = some (.int .i64 (a * g / (l + t + a))) ∧ w6.cell? ⟨w'.heap.size, 0, none⟩ = some (.int .i64 (l - (g - t * g / (l + t + a) - a * g / (l + t + a)))) ∧ w6.cell? ⟨w'.heap.size, 1, none⟩ = some (.int .i64 (t - t * g / (l + t + a))) ∧ w6.cell? ⟨w'.heap.size, 2, none⟩ = some (.int .i64 (a - a * g / (l + t + a)))) (go_keep) (fail)
    go_wp2
    refine bodyPost_ret (v := .tuple #[.agg #[.int .i64 (g - t * g / (l + t + a) - a * g / (l + t + a)), .int .i64 (t * g / (l + t + a)), .int .i64 (a * g / (l + t + a))], .agg #[.int .i64 (l - (g - t * g / (l + t + a) - a * g / (l + t + a))), .int .i64 (t - t * g / (l + t + a)), .int .i64 (a - a * g / (l + t + a))], .bool true]) (by simp [results, Try.results28, go_sem, *]) rfl ⟨ret_val (tkOut_yes HB.out).symm, by repeat (first | (with_reducible exact Below.refl _ _) | (with_reducible assumption) | (with_reducible refine bl_alloc ?_ _) | (with_reducible refine bl_drew ?_) | (with_reducible refine bl_drewN ?_ _) | ((with_reducible refine bl_set ?_ ?hb _); (case hb => first | (simp; done) | omega | (simp; omega))) | (with_reducible refine bl_trans ?_ (by assumption)))⟩
end Go.Proofs.Ytnhdgjcobngolaa
