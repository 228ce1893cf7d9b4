/-
  AfterDross: contracts and the law's walk.
-/
import Derived.Test.YtnhdgjcobngolaaMe9
namespace Go.Proofs.Ytnhdgjcobngolaa
open Go.RowKit
set_option linter.unusedVariables false
attribute [local go_sem ↓] Go.wp_at_zero Go.wp_at_succ

def lossV (n p : Int) : Int := (n * p + 99) / 100
theorem loss_bd {n p : Int} (n0 : 0 ≤ n) (n1 : n ≤ 1000000) (p0 : 0 ≤ p) (p1 : p ≤ 100) : 0 ≤ n * p ∧ n * p ≤ 100000000 ∧ 0 ≤ (n * p + 99) / 100 ∧ (n * p + 99) / 100 ≤ n := by
  have h0 : 0 ≤ n * p := Int.mul_nonneg n0 p0
  have h1 : n * p ≤ n * 100 := Int.mul_le_mul_of_nonneg_left p1 n0
  omega
theorem up_loss {n p : Int} (n0 : 0 ≤ n) (n1 : n ≤ 1000000) (p0 : 0 ≤ p) (p1 : p ≤ 100) : upV (n * p) 100 = (n * p + 99) / 100 := by
  obtain ⟨h0, h1, h2, h3⟩ := loss_bd n0 n1 p0 p1
  unfold upV
  omega
def drB (l t a p : Int) : Bool := meltB l t a && inB p 0 100
def drV (b : Bool) (x : Int) : Int := if b then x else 0
def drOut (l t a p : Int) : Value := .tuple #[.agg #[.int .i64 (drV (drB l t a p) (l - (l * p + 99) / 100)), .int .i64 (drV (drB l t a p) (t - (t * p + 99) / 100)), .int .i64 (drV (drB l t a p) (a - (a * p + 99) / 100))], .int .i64 (drV (drB l t a p) (l + t + a - (l - (l * p + 99) / 100 + (t - (t * p + 99) / 100) + (a - (a * p + 99) / 100)))), .bool (drB l t a p)]
theorem drOut_no {l t a p : Int} (h : drB l t a p = false) : drOut l t a p = .tuple #[.agg #[.int .i64 0, .int .i64 0, .int .i64 0], .int .i64 0, .bool false] := by simp [drOut, h, drV]
theorem drOut_yes {l t a p : Int} (h : drB l t a p = true) : drOut l t a p = .tuple #[.agg #[.int .i64 (l - (l * p + 99) / 100), .int .i64 (t - (t * p + 99) / 100), .int .i64 (a - (a * p + 99) / 100)], .int .i64 (l + t + a - (l - (l * p + 99) / 100 + (t - (t * p + 99) / 100) + (a - (a * p + 99) / 100))), .bool true] := by simp [drOut, h, drV]
theorem ret_val' {a b : Value} (h : a = b) : Ending.returned a = .returned b := by rw [h]
theorem dr_cases (l t a p : Int) : (meltB l t a = false ∨ meltB l t a = true ∧ inB p 0 100 = false) ∨ (meltB l t a = true ∧ inB p 0 100 = true) := by
  rcases hm : meltB l t a with _ | _
  · exact .inl (.inl rfl)
  · rcases hg : inB p 0 100 with _ | _
    · exact .inl (.inr ⟨rfl, rfl⟩)
    · exact .inr ⟨rfl, rfl⟩
set_option maxHeartbeats 400000 in
theorem specDross_no (l t a p : Int) (w : World) (hno : meltB l t a = false ∨ meltB l t a = true ∧ inB p 0 100 = false) : Calls Try.prog 22 #[.agg #[.int .i64 l, .int .i64 t, .int .i64 a], .int .i64 p] w fun e w' => e = .returned (drOut l t a p) ∧ Below w.heap.size w w' := by
  have HB := Lib.hid (show drB l t a p = false by rcases hno with h | ⟨h, h'⟩ <;> simp [drB, *])
  rcases hno with h | ⟨h, h'⟩
  all_goals
    go_enter Try.func22, Try.ntmps22
    go_wp2_with (first | (go_at_call 42; refine (meGood_any _ _ _ _).mono ?_; rintro e w' ⟨rfl, hb⟩; obtain ⟨hc0, hf0, hz0⟩ := bl_at hb (k := w.heap.size) (by first | assumption | (simp; done) | (simp; omega)); obtain ⟨hc1, hf1, hz1⟩ := bl_at hb (k := w.heap.size + 1) (by first | assumption | (simp; done) | (simp; omega))) | (go_at_call 46; refine (l1In_any _ _ _ _).mono ?_; rintro e w' ⟨rfl, rfl⟩))
    refine bodyPost_ret (v := .tuple #[.agg #[.int .i64 0, .int .i64 0, .int .i64 0], .int .i64 0, .bool false]) (by simp [results, Try.results22, go_sem, *]) rfl ⟨ret_val' (drOut_no HB.out).symm, by repeat (first | (with_reducible exact Below.refl _ _) | (with_reducible assumption) | (with_reducible refine bl_alloc ?_ _) | (with_reducible refine bl_drew ?_) | (with_reducible refine bl_drewN ?_ _) | ((with_reducible refine bl_set ?_ ?hb _); (case hb => first | (simp; done) | omega | (simp; omega))) | (with_reducible refine bl_trans ?_ (by assumption)))⟩
set_option maxHeartbeats 400000 in
theorem implDross_no (l t a p : Int) (w : World) (hno : meltB l t a = false ∨ meltB l t a = true ∧ inB p 0 100 = false) : Calls Try.prog 23 #[.agg #[.int .i64 l, .int .i64 t, .int .i64 a], .int .i64 p] w fun e w' => e = .returned (drOut l t a p) ∧ Below w.heap.size w w' := by
  have HB := Lib.hid (show drB l t a p = false by rcases hno with h | ⟨h, h'⟩ <;> simp [drB, *])
  rcases hno with h | ⟨h, h'⟩
  all_goals
    go_enter Try.func23, Try.ntmps23
    go_wp2_with (first | (go_at_call 19; refine (implIsMelt_any _ _ _ _).mono ?_; rintro e w' ⟨rfl, hb⟩; obtain ⟨hc0, hf0, hz0⟩ := bl_at hb (k := w.heap.size) (by first | assumption | (simp; done) | (simp; omega)); obtain ⟨hc1, hf1, hz1⟩ := bl_at hb (k := w.heap.size + 1) (by first | assumption | (simp; done) | (simp; omega)); obtain ⟨hc2, hf2, hz2⟩ := bl_at hb (k := w.heap.size + 1 + 1) (by first | assumption | (simp; done) | (simp; omega))) | (go_at_call 48; refine (within_any _ _ _ _).mono ?_; rintro e w' ⟨rfl, rfl⟩))
    refine bodyPost_ret (v := .tuple #[.agg #[.int .i64 0, .int .i64 0, .int .i64 0], .int .i64 0, .bool false]) (by simp [results, Try.results23, go_sem, *]) rfl ⟨ret_val' (drOut_no HB.out).symm, by repeat (first | (with_reducible exact Below.refl _ _) | (with_reducible assumption) | (with_reducible refine bl_alloc ?_ _) | (with_reducible refine bl_drew ?_) | (with_reducible refine bl_drewN ?_ _) | ((with_reducible refine bl_set ?_ ?hb _); (case hb => first | (simp; done) | omega | (simp; omega))) | (with_reducible refine bl_trans ?_ (by assumption)))⟩
set_option maxHeartbeats 400000 in
theorem cloD_any (n p : Int) (b : Nat) (w : World) (n0 : 0 ≤ n) (n1 : n ≤ 1000000) (p0 : 0 ≤ p) (p1 : p ≤ 100) (hc : w.cell? ⟨b, 0, none⟩ = some (.int .i64 p)) :
    Calls Try.prog 49 #[.int .i64 n, .pointer (some ⟨b, 0, none⟩)] w fun e w' => e = .returned (.int .i64 (n - (n * p + 99) / 100)) ∧ w = w' := by
  obtain ⟨h0, h1, h2, h3⟩ := loss_bd n0 n1 p0 p1
  go_enter Try.func49, Try.ntmps49
  go_wp2
  go_ret
  exact ⟨rfl, rfl⟩
set_option maxHeartbeats 1000000 in
theorem implDross_yes (l t a p : Int) (w : World) (hm : meltB l t a = true) (hp : inB p 0 100 = true) : Calls Try.prog 23 #[.agg #[.int .i64 l, .int .i64 t, .int .i64 a], .int .i64 p] w fun e w' => e = .returned (drOut l t a p) ∧ Below w.heap.size w w' := by
  obtain ⟨⟨h1, h2⟩, ⟨h3, h4⟩, h5, h6⟩ := melt_iff.1 hm
  obtain ⟨p0, p1⟩ := inB_iff.1 hp
  obtain ⟨a1, a2, a3, a4⟩ := loss_bd h1 h2 p0 p1
  obtain ⟨b1, b2, b3, b4⟩ := loss_bd h3 h4 p0 p1
  obtain ⟨c1, c2, c3, c4⟩ := loss_bd h5 h6 p0 p1
  have HM := Lib.hid hm
  have HO := Lib.hid (drOut_yes (show drB l t a p = true by simp [drB, hm, hp]))
  have HX := Lib.hid (show meltB (l - (l * p + 99) / 100) (t - (t * p + 99) / 100) (a - (a * p + 99) / 100) = true from melt_iff.2 ⟨⟨by omega, by omega⟩, ⟨by omega, by omega⟩, by omega, by omega⟩)
  go_enter Try.func23, Try.ntmps23
  go_wp2_with fail; refine (implIsMelt_any _ _ _ _).mono ?_; rintro e w1 ⟨rfl, hb⟩
  obtain ⟨hc0, hf0, hz0⟩ := bl_at hb (k := w.heap.size) (by first | assumption | (simp; done) | (simp; omega)); obtain ⟨hc1, hf1, hz1⟩ := bl_at hb (k := w.heap.size + 1) (by first | assumption | (simp; done) | (simp; omega)); obtain ⟨hc2, hf2, hz2⟩ := bl_at hb (k := w.heap.size + 1 + 1) (by first | assumption | (simp; done) | (simp; omega))
  go_upto_region 4 with (go_at_call 48; refine (within_any _ _ _ _).mono ?_; rintro e w' ⟨rfl, rfl⟩)
  go_cut [8] (fun s8 wx => s8 = .pointer (some ⟨w1.heap.size, 0, none⟩) ∧ wx = (w1.alloc (.cells #[.int .i64 (l - (l * p + 99) / 100), .int .i64 (t - (t * p + 99) / 100), .int .i64 (a - (a * p + 99) / 100)] 32)).drew)
  case first =>
    go_region_held3 (fun w' => w'.cell? ⟨w.heap.size, 0, none⟩ = some (.int .i64 l) ∧ w'.cell? ⟨w.heap.size, 1, none⟩ = some (.int .i64 t) ∧ w'.cell? ⟨w.heap.size, 2, none⟩ = some (.int .i64 a) ∧ w'.cell? ⟨w.heap.size + 1, 0, none⟩ = some (.int .i64 p)) (go_keep) (first | (go_at_call 49; refine (cloD_any _ p (w.heap.size + 1) _ (by omega) (by omega) p0 p1 (by first | assumption | (simp [*]; done) | (go_simp; done))).mono ?_; rintro e w' ⟨rfl, rfl⟩))
    all_goals (go_wp2_with fail; go_meet; exact ⟨rfl, rfl⟩)
  case rest =>
    obtain ⟨rfl, rfl⟩ := hcut
    have hn0 : w.heap.size ≠ w1.heap.size := (by omega); have hn1 : w.heap.size + 1 ≠ w1.heap.size := (by omega); have hn2 : w.heap.size + 1 + 1 ≠ w1.heap.size := (by omega); have hm0 : w1.heap.size ≠ w.heap.size := (by omega); have hm1 : w1.heap.size ≠ w.heap.size + 1 := (by omega); have hm2 : w1.heap.size ≠ w.heap.size + 1 + 1 := (by omega)
    have hk1 : w.heap.size ≠ w.heap.size + 1 := (by omega); have hk2 : w.heap.size ≠ w.heap.size + 1 + 1 := (by omega); have hk3 : w.heap.size + 1 ≠ w.heap.size := (by omega); have hk4 : w.heap.size + 1 + 1 ≠ w.heap.size := (by omega)
    have e1 : IntKind.i64.wrap (l + t + a - (l - (l * p + 99) / 100 + (t - (t * p + 99) / 100) + (a - (a * p + 99) / 100))) = l + t + a - (l - (l * p + 99) / 100 + (t - (t * p + 99) / 100) + (a - (a * p + 99) / 100)) := IntWalk.i64_in _ (by omega)
    go_wp2_with fail
    go_region_held3 (fun w' => w'.cell? ⟨w.heap.size, 0, none⟩ = some (.int .i64 l) ∧ w'.cell? ⟨w.heap.size, 1, none⟩ = some (.int .i64 t) ∧ w'.cell? ⟨w.heap.size, 2, none⟩ = some (.int .i64 a) ∧ w'.cell? ⟨w1.heap.size, 0, none⟩ = some (.int .i64 (l - (l * p + 99) / 100)) ∧ w'.cell? ⟨w1.heap.size, 1, none⟩ = some (.int .i64 (t - (t * p + 99) / 100)) ∧ w'.cell? ⟨w1.heap.size, 2, none⟩ = some (.int .i64 (a - (a * p + 99) / 100))) (go_keep) (first | (go_at_call 45; refine (grams_any _ _ _ _ (by first | exact HM.out | exact HX.out)).mono ?_; rintro e w' ⟨rfl, hb⟩; obtain ⟨hc0, hf0, hz0⟩ := bl_at hb (k := w.heap.size) (by first | assumption | (simp; done) | (simp; omega)); obtain ⟨hc2, hf2, hz2⟩ := bl_at hb (k := w.heap.size + 1 + 1) (by first | assumption | (simp; done) | (simp; omega)); obtain ⟨hc4, hf4, hz4⟩ := bl_at hb (k := w1.heap.size) (by first | assumption | (simp; done) | (simp; omega))))
    clear e1
    go_wp2
    refine bodyPost_ret (v := .tuple #[.agg #[.int .i64 (l - (l * p + 99) / 100), .int .i64 (t - (t * p + 99) / 100), .int .i64 (a - (a * p + 99) / 100)], .int .i64 (l + t + a - (l - (l * p + 99) / 100 + (t - (t * p + 99) / 100) + (a - (a * p + 99) / 100))), .bool true]) (by simp [results, Try.results23, go_sem, *]) rfl ⟨ret_val' HO.out.symm, by repeat (first | (with_reducible exact Below.refl _ _) | (with_reducible assumption) | (with_reducible refine bl_alloc ?_ _) | (with_reducible refine bl_drew ?_) | (with_reducible refine bl_drewN ?_ _) | ((with_reducible refine bl_set ?_ ?hb _); (case hb => first | (simp; done) | omega | (simp; omega))) | (with_reducible refine bl_trans ?_ (by assumption)))⟩
end Go.Proofs.Ytnhdgjcobngolaa
