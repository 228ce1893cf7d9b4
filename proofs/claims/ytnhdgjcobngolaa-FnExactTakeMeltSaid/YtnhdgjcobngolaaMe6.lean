/-
  TakeMelt: nothing taken; the law's walk.
-/
import Derived.Test.YtnhdgjcobngolaaMe5
namespace Go.Proofs.Ytnhdgjcobngolaa
open Go.RowKit
set_option linter.unusedVariables false
attribute [local go_sem ↓] Go.wp_at_zero Go.wp_at_succ

theorem tkOut_none {l t a : Int} (h : meltB l t a = true) : tkOut l t a 0 = .tuple #[.agg #[.int .i64 0, .int .i64 0, .int .i64 0], .agg #[.int .i64 l, .int .i64 t, .int .i64 a], .bool true] := by
  obtain ⟨⟨h1, h2⟩, ⟨h3, h4⟩, h5, h6⟩ := melt_iff.1 h
  have hT : tkT l t a 0 = 0 := by simp [tkT]
  have hA : tkA l t a 0 = 0 := by simp [tkA]
  have hL : tkL l t a 0 = 0 := by unfold tkL; rw [hT, hA]; rfl
  have hB : tkB l t a 0 = true := by
    unfold tkB
    rw [h, hL, inB_iff.2 ⟨by omega, by omega⟩]
    simpa using h1
  rw [tkOut_yes hB, hL, hT, hA]
  simp
set_option maxHeartbeats 1000000 in
theorem implTake_none (l t a : Int) (w : World) (h : meltB l t a = true) : Calls Try.prog 28 #[.agg #[.int .i64 l, .int .i64 t, .int .i64 a], .int .i64 0] w fun e w' => e = .returned (.tuple #[.agg #[.int .i64 0, .int .i64 0, .int .i64 0], .agg #[.int .i64 l, .int .i64 t, .int .i64 a], .bool true]) ∧ Below w.heap.size w w' := by
  obtain ⟨⟨h1, h2⟩, ⟨h3, h4⟩, h5, h6⟩ := melt_iff.1 h
  have HM := Lib.hid h
  have hg : inB 0 0 (l + t + a) = true := inB_iff.2 ⟨by omega, by omega⟩
  go_enter Try.func28, Try.ntmps28
  go_wp2_with fail; refine (implIsMelt_any _ _ _ _).mono ?_; rintro e w1 ⟨rfl, hb⟩
  obtain ⟨hc0, hf0, hz0⟩ := bl_at hb (k := w.heap.size) (by first | assumption | (simp; done) | (simp; omega)); obtain ⟨hc1, hf1, hz1⟩ := bl_at hb (k := w.heap.size + 1) (by first | assumption | (simp; done) | (simp; omega)); obtain ⟨hc2, hf2, hz2⟩ := bl_at hb (k := w.heap.size + 1 + 1) (by first | assumption | (simp; done) | (simp; omega))
  go_wp2_with fail; refine (grams_any _ _ _ _ HM.out).mono ?_; rintro e w2 ⟨rfl, hb2⟩
  have hb := bl_trans hb hb2
  clear hc0 hf0 hc1 hf1 hc2 hf2
  obtain ⟨hc0, hf0, hz0⟩ := bl_at hb (k := w.heap.size) (by first | assumption | (simp; done) | (simp; omega)); obtain ⟨hc1, hf1, hz1⟩ := bl_at hb (k := w.heap.size + 1) (by first | assumption | (simp; done) | (simp; omega)); obtain ⟨hc2, hf2, hz2⟩ := bl_at hb (k := w.heap.size + 1 + 1) (by first | assumption | (simp; done) | (simp; omega))
  go_wp2_with (go_at_call 48; refine (within_any _ _ _ _).mono ?_; rintro e w' ⟨rfl, rfl⟩)
  refine (implIsMelt_any _ _ _ _).mono ?_
  rintro e w5 ⟨rfl, hb5⟩
  have hb := bl_trans (bl_alloc (bl_alloc hb _) _) hb5
  obtain ⟨hcO, hfO, hzO⟩ := bl_at hb5 (k := w2.heap.size) (by simp; omega)
  obtain ⟨hcR, hfR, hzR⟩ := bl_at hb5 (k := w2.heap.size + 1) (by simp)
  clear hc0 hf0 hc1 hf1 hc2 hf2
  obtain ⟨hc0, hf0, hz0⟩ := bl_at hb (k := w.heap.size) (by first | assumption | (simp; done) | (simp; omega)); obtain ⟨hc1, hf1, hz1⟩ := bl_at hb (k := w.heap.size + 1) (by first | assumption | (simp; done) | (simp; omega)); obtain ⟨hc2, hf2, hz2⟩ := bl_at hb (k := w.heap.size + 1 + 1) (by first | assumption | (simp; done) | (simp; omega))
  have hn0 : w.heap.size ≠ w2.heap.size := (by omega); have hn1 : w.heap.size + 1 ≠ w2.heap.size := (by omega); have hn2 : w.heap.size + 1 + 1 ≠ w2.heap.size := (by omega); have hm0 : w2.heap.size ≠ w.heap.size := (by omega); have hm1 : w2.heap.size ≠ w.heap.size + 1 := (by omega); have hm2 : w2.heap.size ≠ w.heap.size + 1 + 1 := (by omega)
  have hr0 : w.heap.size + 1 ≠ w2.heap.size + 1 := by omega
  have hr1 : w.heap.size + 1 + 1 ≠ w2.heap.size + 1 := by omega
  have hr2 : w2.heap.size + 1 ≠ w.heap.size + 1 := by omega
  have hr3 : w2.heap.size + 1 ≠ w.heap.size + 1 + 1 := by omega
  have c0 : w5.cell? ⟨w2.heap.size, 0, none⟩ = some (.int .i64 0) := by go_simp
  have c1 : w5.cell? ⟨w2.heap.size, 1, none⟩ = some (.int .i64 0) := by go_simp
  have c2 : w5.cell? ⟨w2.heap.size, 2, none⟩ = some (.int .i64 0) := by go_simp
  have c3 : w5.cell? ⟨w2.heap.size + 1, 0, none⟩ = some (.int .i64 l) := by go_simp
  have c4 : w5.cell? ⟨w2.heap.size + 1, 1, none⟩ = some (.int .i64 t) := by go_simp
  have c5 : w5.cell? ⟨w2.heap.size + 1, 2, none⟩ = some (.int .i64 a) := by go_simp
  have d1 : ∀ o, o < 3 → w5.cell? ⟨w.heap.size + 1, o, none⟩ = some (.int .i64 0) := by
    intro o ho
    match o, ho with
    | 0, _ => go_simp
    | 1, _ => go_simp
    | 2, _ => go_simp
  have d2 : ∀ o, o < 3 → w5.cell? ⟨w.heap.size + 1 + 1, o, none⟩ = some (.int .i64 0) := by
    intro o ho
    match o, ho with
    | 0, _ => go_simp
    | 1, _ => go_simp
    | 2, _ => go_simp
  have f1 : ∀ o, w5.frozen? ⟨w.heap.size + 1, o, none⟩ = false := by intro o; go_simp
  have f2 : ∀ o, w5.frozen? ⟨w.heap.size + 1 + 1, o, none⟩ = false := by intro o; go_simp
  have hbW : Below w.heap.size w w5 := by repeat (first | (with_reducible exact Below.refl _ _) | (with_reducible assumption) | (with_reducible refine bl_alloc ?_ _) | (with_reducible refine bl_drew ?_) | (with_reducible refine bl_drewN ?_ _) | ((with_reducible refine bl_set ?_ ?hb _); (case hb => first | (simp; done) | omega | (simp; omega))) | (with_reducible refine bl_trans ?_ (by assumption)))
  clear hc0 hf0 hc1 hf1 hc2 hf2 hcO hfO hcR hfR hb
  go_wp2
  go_region_held3 (fun w6 => w6.cell? ⟨w2.heap.size, 0, none⟩ = some (.int .i64 0) ∧ w6.cell? ⟨w2.heap.size, 1, none⟩ = some (.int .i64 0) ∧ w6.cell? ⟨w2.heap.size, 2, none⟩ = some (.int .i64 0) ∧ w6.cell? ⟨w2.heap.size + 1, 0, none⟩ = some (.int .i64 l) ∧ w6.cell? ⟨w2.heap.size + 1, 1, none⟩ = some (.int .i64 t) ∧ w6.cell? ⟨w2.heap.size + 1, 2, none⟩ = some (.int .i64 a)) (go_keep) (fail)
  go_wp2
  refine bodyPost_ret (v := .tuple #[.agg #[.int .i64 0, .int .i64 0, .int .i64 0], .agg #[.int .i64 l, .int .i64 t, .int .i64 a], .bool true]) (by simp [results, Try.results28, go_sem, *]) rfl ⟨rfl, by repeat (first | (with_reducible exact Below.refl _ _) | (with_reducible assumption) | (with_reducible refine bl_alloc ?_ _) | (with_reducible refine bl_drew ?_) | (with_reducible refine bl_drewN ?_ _) | ((with_reducible refine bl_set ?_ ?hb _); (case hb => first | (simp; done) | omega | (simp; omega))) | (with_reducible refine bl_trans ?_ (by assumption)))⟩
theorem implTakeMelt_any (l t a g : Int) (w : World) : Calls Try.prog 28 #[.agg #[.int .i64 l, .int .i64 t, .int .i64 a], .int .i64 g] w fun e w' => e = .returned (tkOut l t a g) ∧ Below w.heap.size w w' := by
  rcases take_cases l t a g with h | ⟨h1, h2, h3⟩ | ⟨rfl, rfl, rfl, rfl⟩
  · exact implTake_no l t a g w h
  · have hg := (inB_iff.1 h2).1
    by_cases hp : 0 < g
    · exact implTake_yes l t a g w h1 h2 h3 hp
    · obtain rfl : g = 0 := by omega
      rw [tkOut_none h1]; exact implTake_none l t a w h1
  · rw [tkOut_none (by decide)]; exact implTake_none 0 0 0 w (by decide)

/-! ### the law -/
set_option maxHeartbeats 400000 in
theorem eqMelt_same (l t a : Int) (w : World) : Calls Try.prog 24 #[.agg #[.int .i64 l, .int .i64 t, .int .i64 a], .agg #[.int .i64 l, .int .i64 t, .int .i64 a]] w fun e w' => e = .returned (.bool (true)) ∧ Below w.heap.size w w' := by
  go_enter Try.func24, Try.ntmps24
  go_wp2
  go_ret
  exact ⟨rfl, by repeat (first | (with_reducible exact Below.refl _ _) | (with_reducible assumption) | (with_reducible refine bl_alloc ?_ _) | (with_reducible refine bl_drew ?_) | (with_reducible refine bl_drewN ?_ _) | ((with_reducible refine bl_set ?_ ?hb _); (case hb => first | (simp; done) | omega | (simp; omega))) | (with_reducible refine bl_trans ?_ (by assumption)))⟩
theorem tkOut_form (l t a g : Int) : ∃ x0 x1 x2 y0 y1 y2 : Int, ∃ b : Bool, tkOut l t a g = .tuple #[.agg #[.int .i64 x0, .int .i64 x1, .int .i64 x2], .agg #[.int .i64 y0, .int .i64 y1, .int .i64 y2], .bool b] := ⟨_, _, _, _, _, _, _, rfl⟩
set_option maxHeartbeats 1000000 in
theorem lawTakeMelt (l t a g : Int) (w : World) (_ : I64 l) (_ : I64 t) (_ : I64 a) (_ : I64 g) : Calls Try.prog 9 #[.agg #[.int .i64 l, .int .i64 t, .int .i64 a], .int .i64 g] w fun e w' => e = .returned (.bool (true)) ∧ Below w.heap.size w w' := by
  obtain ⟨x0, x1, x2, y0, y1, y2, b, hv⟩ := tkOut_form l t a g
  have H1 := Lib.hid (fun W => specTakeMelt_any l t a g W)
  have H2 := Lib.hid (fun W => implTakeMelt_any l t a g W)
  rw [hv] at H1 H2
  clear hv
  go_enter Try.func9, Try.ntmps9
  go_wp2_with fail; refine (toMelt_any _ _ _ _).mono ?_; rintro e w1 ⟨rfl, hb⟩
  obtain ⟨hc0, hf0, hz0⟩ := bl_at hb (k := w.heap.size) (by first | assumption | (simp; done) | (simp; omega))
  go_wp2_with fail; refine (H1.out _).mono ?_; rintro e w2 ⟨rfl, hb⟩
  obtain ⟨hc0, hf0, hz0⟩ := bl_at hb (k := w.heap.size) (by first | assumption | (simp; done) | (simp; omega))
  go_wp2_with fail; refine (toMelt_any _ _ _ _).mono ?_; rintro e w3 ⟨rfl, hb⟩
  obtain ⟨hc0, hf0, hz0⟩ := bl_at hb (k := w.heap.size) (by first | assumption | (simp; done) | (simp; omega))
  obtain ⟨hc1, hf1, hz1⟩ := bl_at hb (k := w2.heap.size) (by first | assumption | (simp; done) | (simp; omega))
  obtain ⟨hc2, hf2, hz2⟩ := bl_at hb (k := w2.heap.size + 1) (by first | assumption | (simp; done) | (simp; omega))
  go_wp2_with fail; refine (H2.out _).mono ?_; rintro e w4 ⟨rfl, hb⟩
  obtain ⟨hc1, hf1, hz1⟩ := bl_at hb (k := w2.heap.size) (by first | assumption | (simp; done) | (simp; omega))
  obtain ⟨hc2, hf2, hz2⟩ := bl_at hb (k := w2.heap.size + 1) (by first | assumption | (simp; done) | (simp; omega))
  go_wp2_with fail; refine (eqMelt_same _ _ _ _).mono ?_; rintro e w5 ⟨rfl, hb⟩
  obtain ⟨hc1, hf1, hz1⟩ := bl_at hb (k := w2.heap.size) (by first | assumption | (simp; done) | (simp; omega))
  obtain ⟨hc2, hf2, hz2⟩ := bl_at hb (k := w2.heap.size + 1) (by first | assumption | (simp; done) | (simp; omega))
  obtain ⟨hc3, hf3, hz3⟩ := bl_at hb (k := w4.heap.size) (by first | assumption | (simp; done) | (simp; omega))
  obtain ⟨hc4, hf4, hz4⟩ := bl_at hb (k := w4.heap.size + 1) (by first | assumption | (simp; done) | (simp; omega))
  go_wp2_with fail; refine (eqMelt_same _ _ _ _).mono ?_; rintro e w6 ⟨rfl, hb⟩
  go_wp2
  go_ret
  exact ⟨rfl, by repeat (first | (with_reducible exact Below.refl _ _) | (with_reducible assumption) | (with_reducible refine bl_alloc ?_ _) | (with_reducible refine bl_drew ?_) | (with_reducible refine bl_drewN ?_ _) | ((with_reducible refine bl_set ?_ ?hb _); (case hb => first | (simp; done) | omega | (simp; omega))) | (with_reducible refine bl_trans ?_ (by assumption)))⟩
end Go.Proofs.Ytnhdgjcobngolaa
