/-
  AfterDross, the reference's; the law's walk.
-/
import Derived.Test.YtnhdgjcobngolaaMe11
namespace Go.Proofs.Ytnhdgjcobngolaa
open Go.RowKit
set_option linter.unusedVariables false
attribute [local go_sem ↓] Go.wp_at_zero Go.wp_at_succ
theorem meUp_loss (n p : Int) (w : World) (n0 : 0 ≤ n) (n1 : n ≤ 1000000) (p0 : 0 ≤ p) (p1 : p ≤ 100) : Calls Try.prog 47 #[.int .i64 (n * p), .int .i64 100] w fun e w' => e = .returned (.int .i64 ((n * p + 99) / 100)) ∧ w = w' := by
  obtain ⟨h0, h1, h2, h3⟩ := loss_bd n0 n1 p0 p1
  rw [← up_loss n0 n1 p0 p1]
  exact meUp_any _ _ _ h0 (by omega) (by omega) (by omega)
set_option maxHeartbeats 1000000 in
theorem specDross_yes (l t a p : Int) (w : World) (hm : meltB l t a = true) (hp : inB p 0 100 = true) : Calls Try.prog 22 #[.agg #[.int .i64 l, .int .i64 t, .int .i64 a], .int .i64 p] w fun e w' => e = .returned (drOut l t a p) ∧ Below w.heap.size w w' := by
  obtain ⟨⟨h1, h2⟩, ⟨h3, h4⟩, h5, h6⟩ := melt_iff.1 hm
  obtain ⟨p0, p1⟩ := inB_iff.1 hp
  obtain ⟨a1, a2, a3, a4⟩ := loss_bd h1 h2 p0 p1
  obtain ⟨b1, b2, b3, b4⟩ := loss_bd h3 h4 p0 p1
  obtain ⟨c1, c2, c3, c4⟩ := loss_bd h5 h6 p0 p1
  have HM := Lib.hid hm
  have HO := Lib.hid (drOut_yes (show drB l t a p = true by simp [drB, hm, hp]))
  have HX := Lib.hid (show meltB (l - (l * p + 99) / 100) (t - (t * p + 99) / 100) (a - (a * p + 99) / 100) = true from melt_iff.2 ⟨⟨by omega, by omega⟩, ⟨by omega, by omega⟩, by omega, by omega⟩)
  go_enter Try.func22, Try.ntmps22
  go_wp2_with fail; refine (meGood_any _ _ _ _).mono ?_; rintro e w1 ⟨rfl, hb⟩
  obtain ⟨hc0, hf0, hz0⟩ := bl_at hb (k := w.heap.size) (by first | assumption | (simp; done) | (simp; omega)); obtain ⟨hc1, hf1, hz1⟩ := bl_at hb (k := w.heap.size + 1) (by first | assumption | (simp; done) | (simp; omega))
  have hn0 : w.heap.size ≠ w1.heap.size := (by omega); have hn1 : w.heap.size + 1 ≠ w1.heap.size := (by omega); have hm0 : w1.heap.size ≠ w.heap.size := (by omega); have hm1 : w1.heap.size ≠ w.heap.size + 1 := (by omega)
  have hk1 : w.heap.size ≠ w.heap.size + 1 := (by omega); have hk2 : w.heap.size ≠ w.heap.size + 1 + 1 := (by omega); have hk3 : w.heap.size + 1 ≠ w.heap.size := (by omega); have hk4 : w.heap.size + 1 + 1 ≠ w.heap.size := (by omega)
  have e1 : IntKind.i64.wrap (l * p) = l * p := IntWalk.i64_in _ (by omega)
  have e2 : IntKind.i64.wrap (t * p) = t * p := IntWalk.i64_in _ (by omega)
  have e3 : IntKind.i64.wrap (a * p) = a * p := IntWalk.i64_in _ (by omega)
  have e4 : IntKind.i64.wrap (l - (l * p + 99) / 100) = l - (l * p + 99) / 100 := IntWalk.i64_in _ (by omega)
  have e5 : IntKind.i64.wrap (t - (t * p + 99) / 100) = t - (t * p + 99) / 100 := IntWalk.i64_in _ (by omega)
  have e6 : IntKind.i64.wrap (a - (a * p + 99) / 100) = a - (a * p + 99) / 100 := IntWalk.i64_in _ (by omega)
  have e7 : IntKind.i64.wrap (l + t + a - (l - (l * p + 99) / 100 + (t - (t * p + 99) / 100) + (a - (a * p + 99) / 100))) = l + t + a - (l - (l * p + 99) / 100 + (t - (t * p + 99) / 100) + (a - (a * p + 99) / 100)) := IntWalk.i64_in _ (by omega)
  go_upto_region 3 with (go_at_call 46; refine (l1In_any _ _ _ _).mono ?_; rintro e w' ⟨rfl, rfl⟩)
  go_cut [7] (fun s8 wx => s8 = .pointer (some ⟨w1.heap.size, 0, none⟩) ∧ wx = (w1.alloc (.cells #[.int .i64 (l - (l * p + 99) / 100), .int .i64 (t - (t * p + 99) / 100), .int .i64 (a - (a * p + 99) / 100)] 32)).drew)
  case first =>
    go_region_held3 (fun w' => w'.cell? ⟨w.heap.size, 0, none⟩ = some (.int .i64 l) ∧ w'.cell? ⟨w.heap.size, 1, none⟩ = some (.int .i64 t) ∧ w'.cell? ⟨w.heap.size, 2, none⟩ = some (.int .i64 a)) (go_keep) (first | (go_at_call 47; refine (meUp_loss _ p _ (by assumption) (by assumption) p0 p1).mono ?_; rintro e w' ⟨rfl, rfl⟩))
    all_goals (go_wp2_with fail; go_meet; exact ⟨rfl, rfl⟩)
  case rest =>
    obtain ⟨rfl, rfl⟩ := hcut
    go_wp2_with fail
    go_region_held3 (fun w' => w'.cell? ⟨w.heap.size, 0, none⟩ = some (.int .i64 l) ∧ w'.cell? ⟨w.heap.size, 1, none⟩ = some (.int .i64 t) ∧ w'.cell? ⟨w.heap.size, 2, none⟩ = some (.int .i64 a) ∧ w'.cell? ⟨w1.heap.size, 0, none⟩ = some (.int .i64 (l - (l * p + 99) / 100)) ∧ w'.cell? ⟨w1.heap.size, 1, none⟩ = some (.int .i64 (t - (t * p + 99) / 100)) ∧ w'.cell? ⟨w1.heap.size, 2, none⟩ = some (.int .i64 (a - (a * p + 99) / 100))) (go_keep) (first | (go_at_call 44; refine (meGrams_any _ _ _ _ (by first | exact HM.out | exact HX.out)).mono ?_; rintro e w' ⟨rfl, hb⟩; obtain ⟨hc0, hf0, hz0⟩ := bl_at hb (k := w.heap.size) (by first | assumption | (simp; done) | (simp; omega)); obtain ⟨hc1, hf1, hz1⟩ := bl_at hb (k := w.heap.size + 1) (by first | assumption | (simp; done) | (simp; omega)); obtain ⟨hc4, hf4, hz4⟩ := bl_at hb (k := w1.heap.size) (by first | assumption | (simp; done) | (simp; omega))))
    clear e1 e2 e3 e4 e5 e6 e7
    go_wp2
    refine bodyPost_ret (v := .tuple #[.agg #[.int .i64 (l - (l * p + 99) / 100), .int .i64 (t - (t * p + 99) / 100), .int .i64 (a - (a * p + 99) / 100)], .int .i64 (l + t + a - (l - (l * p + 99) / 100 + (t - (t * p + 99) / 100) + (a - (a * p + 99) / 100))), .bool true]) (by simp [results, Try.results22, go_sem, *]) rfl ⟨ret_val' HO.out.symm, by repeat (first | (with_reducible exact Below.refl _ _) | (with_reducible assumption) | (with_reducible refine bl_alloc ?_ _) | (with_reducible refine bl_drew ?_) | (with_reducible refine bl_drewN ?_ _) | ((with_reducible refine bl_set ?_ ?hb _); (case hb => first | (simp; done) | omega | (simp; omega))) | (with_reducible refine bl_trans ?_ (by assumption)))⟩
theorem specAfterDross_any (l t a p : Int) (w : World) : Calls Try.prog 22 #[.agg #[.int .i64 l, .int .i64 t, .int .i64 a], .int .i64 p] w fun e w' => e = .returned (drOut l t a p) ∧ Below w.heap.size w w' := by
  rcases dr_cases l t a p with h | ⟨h1, h2⟩
  · exact specDross_no l t a p w h
  · exact specDross_yes l t a p w h1 h2
theorem implAfterDross_any (l t a p : Int) (w : World) : Calls Try.prog 23 #[.agg #[.int .i64 l, .int .i64 t, .int .i64 a], .int .i64 p] w fun e w' => e = .returned (drOut l t a p) ∧ Below w.heap.size w w' := by
  rcases dr_cases l t a p with h | ⟨h1, h2⟩
  · exact implDross_no l t a p w h
  · exact implDross_yes l t a p w h1 h2
set_option maxHeartbeats 400000 in
theorem eqMelt_same' (l t a : Int) (w : World) : Calls Try.prog 24 #[.agg #[.int .i64 l, .int .i64 t, .int .i64 a], .agg #[.int .i64 l, .int .i64 t, .int .i64 a]] w fun e w' => e = .returned (.bool (true)) ∧ Below w.heap.size w w' := by
  go_enter Try.func24, Try.ntmps24
  go_wp2
  go_ret
  exact ⟨rfl, by repeat (first | (with_reducible exact Below.refl _ _) | (with_reducible assumption) | (with_reducible refine bl_alloc ?_ _) | (with_reducible refine bl_drew ?_) | (with_reducible refine bl_drewN ?_ _) | ((with_reducible refine bl_set ?_ ?hb _); (case hb => first | (simp; done) | omega | (simp; omega))) | (with_reducible refine bl_trans ?_ (by assumption)))⟩
theorem drOut_form (l t a p : Int) : ∃ x0 x1 x2 y : Int, ∃ b : Bool, drOut l t a p = .tuple #[.agg #[.int .i64 x0, .int .i64 x1, .int .i64 x2], .int .i64 y, .bool b] := ⟨_, _, _, _, _, rfl⟩
set_option maxHeartbeats 1000000 in
theorem lawAfterDross (l t a p : Int) (w : World) (_ : I64 l) (_ : I64 t) (_ : I64 a) (_ : I64 p) : Calls Try.prog 7 #[.agg #[.int .i64 l, .int .i64 t, .int .i64 a], .int .i64 p] w fun e w' => e = .returned (.bool (true)) ∧ Below w.heap.size w w' := by
  obtain ⟨x0, x1, x2, y, b, hv⟩ := drOut_form l t a p
  have H1 := Lib.hid (fun W => specAfterDross_any l t a p W)
  have H2 := Lib.hid (fun W => implAfterDross_any l t a p W)
  rw [hv] at H1 H2
  clear hv
  go_enter Try.func7, Try.ntmps7
  go_wp2_with fail; refine (toMelt_any _ _ _ _).mono ?_; rintro e w1 ⟨rfl, hb⟩
  obtain ⟨hc0, hf0, hz0⟩ := bl_at hb (k := w.heap.size) (by first | assumption | (simp; done) | (simp; omega))
  go_wp2_with fail; refine (H1.out _).mono ?_; rintro e w2 ⟨rfl, hb⟩
  obtain ⟨hc0, hf0, hz0⟩ := bl_at hb (k := w.heap.size) (by first | assumption | (simp; done) | (simp; omega))
  go_wp2_with fail; refine (toMelt_any _ _ _ _).mono ?_; rintro e w3 ⟨rfl, hb⟩
  obtain ⟨hc0, hf0, hz0⟩ := bl_at hb (k := w.heap.size) (by first | assumption | (simp; done) | (simp; omega))
  obtain ⟨hc1, hf1, hz1⟩ := bl_at hb (k := w2.heap.size) (by first | assumption | (simp; done) | (simp; omega))
  go_wp2_with fail; refine (H2.out _).mono ?_; rintro e w4 ⟨rfl, hb⟩
  obtain ⟨hc1, hf1, hz1⟩ := bl_at hb (k := w2.heap.size) (by first | assumption | (simp; done) | (simp; omega))
  go_wp2_with fail; refine (eqMelt_same' _ _ _ _).mono ?_; rintro e w5 ⟨rfl, hb⟩
  go_wp2
  go_ret
  exact ⟨rfl, by repeat (first | (with_reducible exact Below.refl _ _) | (with_reducible assumption) | (with_reducible refine bl_alloc ?_ _) | (with_reducible refine bl_drew ?_) | (with_reducible refine bl_drewN ?_ _) | ((with_reducible refine bl_set ?_ ?hb _); (case hb => first | (simp; done) | omega | (simp; omega))) | (with_reducible refine bl_trans ?_ (by assumption)))⟩
end Go.Proofs.Ytnhdgjcobngolaa
