/-
  TinToAdd, AntimonyToAdd, LeadToAdd: the two sides and the laws' walks.
-/
import Derived.Test.YtnhdgjcobngolaaMe9
namespace Go.Proofs.Ytnhdgjcobngolaa
open Go.RowKit
set_option linter.unusedVariables false
attribute [local go_sem ↓] Go.wp_at_zero Go.wp_at_succ

def oV (b : Bool) (x : Int) : Int := if b then x else 0
def PairB (x : Int) (b : Bool) (w : World) (e : Ending) (w' : World) : Prop := e = .returned (.tuple #[.int .i64 x, .bool b]) ∧ Below w.heap.size w w'
theorem pair_b {x y : Int} {b c : Bool} {w w' : World} (h : x = y) (h' : b = c) (hb : Below w.heap.size w w') : PairB y c w (.returned (.tuple #[.int .i64 x, .bool b])) w' := by subst h; subst h'; exact ⟨rfl, hb⟩
def kT (l t a p : Int) : Int := p * (l + t + a) - 1000 * t
theorem soT_iff {l t a p n : Int} : soT l t a p n = true ↔ kT l t a p ≤ (1000 - p) * n := by
  have h1 : p * (l + t + a + n) = p * (l + t + a) + p * n := Int.mul_add _ _ _
  have h2 : (1000 - p) * n = 1000 * n - p * n := Int.sub_mul _ _ _
  unfold soT kT
  rw [decide_eq_true_eq]
  omega
theorem soT_mono {l t a p : Int} (h : p ≤ 1000) : ∀ i j, 0 ≤ i → i ≤ j → j ≤ 1000000 → soT l t a p i = true → soT l t a p j = true := by
  intro i j _ hij _ hi
  rw [soT_iff] at hi ⊢
  have : (1000 - p) * i ≤ (1000 - p) * j := Int.mul_le_mul_of_nonneg_left hij (by omega)
  omega
set_option maxHeartbeats 1000000 in
theorem specTin_yes (l t a p q r s : Int) (w : World) (h : askB l t a p q r s = true) : Calls Try.prog 36 #[.agg #[.int .i64 l, .int .i64 t, .int .i64 a], .agg #[.int .i64 p, .int .i64 q, .int .i64 r, .int .i64 s]] w (PairB (nV (kT l t a p) (1000 - p)) (nB (kT l t a p) (1000 - p)) w) := by
  obtain ⟨hm, hb, hS⟩ := ask_melt h
  obtain ⟨⟨h1, h2⟩, ⟨h3, h4⟩, h5, h6⟩ := melt_iff.1 hm
  obtain ⟨⟨k1, k2, k3⟩, k4, k5, k6⟩ := blend_iff.1 hb
  have HM := Lib.hid hm
  clear hm hb
  go_enter Try.func36, Try.ntmps36
  go_wp2_with fail
  (go_at_call 50; refine (meAsked_any _ _ _ _ _ _ _ _).mono ?_; rintro e w' ⟨rfl, hb⟩; obtain ⟨hc0, hf0, hz0⟩ := bl_at hb (k := w.heap.size) (by first | assumption | (simp; done) | (simp; omega)); obtain ⟨hc1, hf1, hz1⟩ := bl_at hb (k := w.heap.size + 1) (by first | assumption | (simp; done) | (simp; omega)))
  go_wp2_with fail
  go_region_held3 (fun w' => w'.cell? ⟨w.heap.size, 0, none⟩ = some (.int .i64 l) ∧ w'.cell? ⟨w.heap.size, 1, none⟩ = some (.int .i64 t) ∧ w'.cell? ⟨w.heap.size, 2, none⟩ = some (.int .i64 a) ∧ w'.cell? ⟨w.heap.size + 1, 0, none⟩ = some (.int .i64 p) ∧ w'.cell? ⟨w.heap.size + 1, 1, none⟩ = some (.int .i64 q) ∧ w'.cell? ⟨w.heap.size + 1, 2, none⟩ = some (.int .i64 r) ∧ w'.cell? ⟨w.heap.size + 1, 3, none⟩ = some (.int .i64 s)) (go_keep) (first | (go_at_call 44; refine (meGrams_any _ _ _ _ HM.out).mono ?_; rintro e w' ⟨rfl, hb⟩; obtain ⟨hc0, hf0, hz0⟩ := bl_at hb (k := w.heap.size) (by first | assumption | (simp; done) | (simp; omega)); obtain ⟨hc1, hf1, hz1⟩ := bl_at hb (k := w.heap.size + 1) (by first | assumption | (simp; done) | (simp; omega))) | (go_at_call 55; refine (meAdd_any _ _ _ _ (by omega) (by omega) (by omega) (by omega) (by omega) (by omega)).mono ?_; rintro e w' ⟨rfl, rfl⟩))
  go_wp2
  go_ret2
  exact ⟨rfl, by repeat (first | (with_reducible exact Below.refl _ _) | (with_reducible assumption) | (with_reducible refine bl_alloc ?_ _) | (with_reducible refine bl_drew ?_) | (with_reducible refine bl_drewN ?_ _) | ((with_reducible refine bl_set ?_ ?hb _); (case hb => first | (simp; done) | omega | (simp; omega))) | (with_reducible refine bl_trans ?_ (by assumption)))⟩
set_option maxHeartbeats 400000 in
theorem specTin_no (l t a p q r s : Int) (w : World) (h : askB l t a p q r s = false) : Calls Try.prog 36 #[.agg #[.int .i64 l, .int .i64 t, .int .i64 a], .agg #[.int .i64 p, .int .i64 q, .int .i64 r, .int .i64 s]] w (PairB 0 false w) := by
  go_enter Try.func36, Try.ntmps36
  go_wp2_with (go_at_call 50; refine (meAsked_any _ _ _ _ _ _ _ _).mono ?_; rintro e w' ⟨rfl, hb⟩; obtain ⟨hc0, hf0, hz0⟩ := bl_at hb (k := w.heap.size) (by first | assumption | (simp; done) | (simp; omega)); obtain ⟨hc1, hf1, hz1⟩ := bl_at hb (k := w.heap.size + 1) (by first | assumption | (simp; done) | (simp; omega)))
  go_ret2
  exact ⟨rfl, by repeat (first | (with_reducible exact Below.refl _ _) | (with_reducible assumption) | (with_reducible refine bl_alloc ?_ _) | (with_reducible refine bl_drew ?_) | (with_reducible refine bl_drewN ?_ _) | ((with_reducible refine bl_set ?_ ?hb _); (case hb => first | (simp; done) | omega | (simp; omega))) | (with_reducible refine bl_trans ?_ (by assumption)))⟩
set_option maxHeartbeats 1000000 in
theorem implTin_yes (l t a p q r s : Int) (w : World) (h : askB l t a p q r s = true) : Calls Try.prog 37 #[.agg #[.int .i64 l, .int .i64 t, .int .i64 a], .agg #[.int .i64 p, .int .i64 q, .int .i64 r, .int .i64 s]] w (PairB (nV (kT l t a p) (1000 - p)) (nB (kT l t a p) (1000 - p)) w) := by
  obtain ⟨hm, hb, hS⟩ := ask_melt h
  obtain ⟨⟨k1, k2, k3⟩, k4, k5, k6⟩ := blend_iff.1 hb
  have h4 : metalB l t a = true := by simp [metalB, hm, hS]
  obtain ⟨en, ey⟩ := one_end (k := kT l t a p) (d := 1000 - p) (by omega) (so := soT l t a p) (fun n _ _ => soT_iff)
  have HM := Lib.hid hm
  have HB := Lib.hid hb
  have HN := Lib.hid en
  have HY := Lib.hid ey
  clear hm en ey h
  go_enter Try.func37, Try.ntmps37
  go_wp2_with fail
  (go_at_call 52; refine (isMetal_any _ _ _ _).mono ?_; rintro e w' ⟨rfl, hb⟩; obtain ⟨hc0, hf0, hz0⟩ := bl_at hb (k := w.heap.size) (by first | assumption | (simp; done) | (simp; omega)); obtain ⟨hc1, hf1, hz1⟩ := bl_at hb (k := w.heap.size + 1) (by first | assumption | (simp; done) | (simp; omega)))
  go_wp2_with fail
  (go_at_call 16; refine (implIsBlend_any _ _ _ _ _).mono ?_; rintro e w' ⟨rfl, hb⟩; obtain ⟨hc0, hf0, hz0⟩ := bl_at hb (k := w.heap.size) (by first | assumption | (simp; done) | (simp; omega)); obtain ⟨hc1, hf1, hz1⟩ := bl_at hb (k := w.heap.size + 1) (by first | assumption | (simp; done) | (simp; omega)))
  go_wp2_with fail
  have hm0 : MeltAt w' w.heap.size l t a := ⟨by go_simp, by go_simp, by go_simp⟩
  have hb0 : BlendAt w' (w.heap.size + 1) p q r s := ⟨by go_simp, by go_simp, by go_simp, by go_simp⟩
  refine (leastT_any (soT l t a p) w.heap.size (w.heap.size + 1) _ (soT_mono (by omega)) (fun n W n0 n1 hW => cloT_any l t a p q r s n _ _ W HM.out HB.out n0 n1 (hm0.below hW hz0) (hb0.below hW hz1) (Nat.lt_of_lt_of_le hz0 hW.size) (Nat.lt_of_lt_of_le hz1 hW.size))).mono ?_
  rintro e w3 ⟨he, hb3⟩
  rcases he with ⟨hf, rfl⟩ | ⟨x, ht, hl, rfl⟩
  · obtain ⟨e1, e2⟩ := HN.out hf
    have E1 := Lib.hid e1
    have E2 := Lib.hid e2
    clear e1 e2 hf
    go_wp2
    go_ret2
    exact pair_b E2.out.symm E1.out.symm (by repeat (first | (with_reducible exact Below.refl _ _) | (with_reducible assumption) | (with_reducible refine bl_alloc ?_ _) | (with_reducible refine bl_drew ?_) | (with_reducible refine bl_drewN ?_ _) | ((with_reducible refine bl_set ?_ ?hb _); (case hb => first | (simp; done) | omega | (simp; omega))) | (with_reducible refine bl_trans ?_ (by assumption))))
  · obtain ⟨e1, e2⟩ := HY.out x ht hl
    have E1 := Lib.hid e1
    have E2 := Lib.hid e2
    clear e1 e2 ht hl
    go_wp2
    go_ret2
    exact pair_b E2.out.symm E1.out.symm (by repeat (first | (with_reducible exact Below.refl _ _) | (with_reducible assumption) | (with_reducible refine bl_alloc ?_ _) | (with_reducible refine bl_drew ?_) | (with_reducible refine bl_drewN ?_ _) | ((with_reducible refine bl_set ?_ ?hb _); (case hb => first | (simp; done) | omega | (simp; omega))) | (with_reducible refine bl_trans ?_ (by assumption))))
set_option maxHeartbeats 400000 in
theorem implTin_no (l t a p q r s : Int) (w : World) (h : askB l t a p q r s = false) : Calls Try.prog 37 #[.agg #[.int .i64 l, .int .i64 t, .int .i64 a], .agg #[.int .i64 p, .int .i64 q, .int .i64 r, .int .i64 s]] w (PairB 0 false w) := by
  have H := Lib.hid h
  clear h
  by_cases h4 : metalB l t a = true
  · have h5 : blendB p q r s = false := by have := H.out; simpa [askB, h4] using this
    go_enter Try.func37, Try.ntmps37
    go_wp2_with (first | (go_at_call 52; refine (isMetal_any _ _ _ _).mono ?_; rintro e w' ⟨rfl, hb⟩; obtain ⟨hc0, hf0, hz0⟩ := bl_at hb (k := w.heap.size) (by first | assumption | (simp; done) | (simp; omega)); obtain ⟨hc1, hf1, hz1⟩ := bl_at hb (k := w.heap.size + 1) (by first | assumption | (simp; done) | (simp; omega))) | (go_at_call 16; refine (implIsBlend_any _ _ _ _ _).mono ?_; rintro e w' ⟨rfl, hb⟩; obtain ⟨hc0, hf0, hz0⟩ := bl_at hb (k := w.heap.size) (by first | assumption | (simp; done) | (simp; omega)); obtain ⟨hc1, hf1, hz1⟩ := bl_at hb (k := w.heap.size + 1) (by first | assumption | (simp; done) | (simp; omega))))
    go_ret2
    exact ⟨rfl, by repeat (first | (with_reducible exact Below.refl _ _) | (with_reducible assumption) | (with_reducible refine bl_alloc ?_ _) | (with_reducible refine bl_drew ?_) | (with_reducible refine bl_drewN ?_ _) | ((with_reducible refine bl_set ?_ ?hb _); (case hb => first | (simp; done) | omega | (simp; omega))) | (with_reducible refine bl_trans ?_ (by assumption)))⟩
  · have h4' : metalB l t a = false := by simpa using h4
    clear h4
    go_enter Try.func37, Try.ntmps37
    go_wp2_with (first | (go_at_call 52; refine (isMetal_any _ _ _ _).mono ?_; rintro e w' ⟨rfl, hb⟩; obtain ⟨hc0, hf0, hz0⟩ := bl_at hb (k := w.heap.size) (by first | assumption | (simp; done) | (simp; omega)); obtain ⟨hc1, hf1, hz1⟩ := bl_at hb (k := w.heap.size + 1) (by first | assumption | (simp; done) | (simp; omega))))
    go_ret2
    exact ⟨rfl, by repeat (first | (with_reducible exact Below.refl _ _) | (with_reducible assumption) | (with_reducible refine bl_alloc ?_ _) | (with_reducible refine bl_drew ?_) | (with_reducible refine bl_drewN ?_ _) | ((with_reducible refine bl_set ?_ ?hb _); (case hb => first | (simp; done) | omega | (simp; omega))) | (with_reducible refine bl_trans ?_ (by assumption)))⟩
def vTin (l t a p q r s : Int) : Int := oV (askB l t a p q r s) (nV (kT l t a p) (1000 - p))
def bTin (l t a p q r s : Int) : Bool := askB l t a p q r s && nB (kT l t a p) (1000 - p)
theorem specTin_any (l t a p q r s : Int) (w : World) : Calls Try.prog 36 #[.agg #[.int .i64 l, .int .i64 t, .int .i64 a], .agg #[.int .i64 p, .int .i64 q, .int .i64 r, .int .i64 s]] w (PairB (vTin l t a p q r s) (bTin l t a p q r s) w) := by
  rcases h : askB l t a p q r s with _ | _
  · simp only [vTin, bTin, h, oV, Bool.false_and, Bool.false_eq_true, if_false]; exact specTin_no l t a p q r s w h
  · simp only [vTin, bTin, h, oV, Bool.true_and, if_true]; exact specTin_yes l t a p q r s w h
theorem implTin_any (l t a p q r s : Int) (w : World) : Calls Try.prog 37 #[.agg #[.int .i64 l, .int .i64 t, .int .i64 a], .agg #[.int .i64 p, .int .i64 q, .int .i64 r, .int .i64 s]] w (PairB (vTin l t a p q r s) (bTin l t a p q r s) w) := by
  rcases h : askB l t a p q r s with _ | _
  · simp only [vTin, bTin, h, oV, Bool.false_and, Bool.false_eq_true, if_false]; exact implTin_no l t a p q r s w h
  · simp only [vTin, bTin, h, oV, Bool.true_and, if_true]; exact implTin_yes l t a p q r s w h
set_option maxHeartbeats 1000000 in
theorem lawTinToAdd (l t a p q r s : Int) (w : World) (_ : I64 l) (_ : I64 t) (_ : I64 a) (_ : I64 p) (_ : I64 q) (_ : I64 r) (_ : I64 s) : Calls Try.prog 12 #[.agg #[.int .i64 l, .int .i64 t, .int .i64 a], .agg #[.int .i64 p, .int .i64 q, .int .i64 r, .int .i64 s]] w fun e w' => e = .returned (.bool (true)) ∧ Below w.heap.size w w' := by
  go_enter Try.func12, Try.ntmps12
  go_wp2_with fail
  go_region_held3 (fun w' => w'.cell? ⟨w.heap.size, 0, none⟩ = some (.int .i64 l) ∧ w'.cell? ⟨w.heap.size, 1, none⟩ = some (.int .i64 t) ∧ w'.cell? ⟨w.heap.size, 2, none⟩ = some (.int .i64 a) ∧ w'.cell? ⟨w.heap.size + 1, 0, none⟩ = some (.int .i64 p) ∧ w'.cell? ⟨w.heap.size + 1, 1, none⟩ = some (.int .i64 q) ∧ w'.cell? ⟨w.heap.size + 1, 2, none⟩ = some (.int .i64 r) ∧ w'.cell? ⟨w.heap.size + 1, 3, none⟩ = some (.int .i64 s)) (go_keep) (first | (go_at_call 18; refine (toMelt_any _ _ _ _).mono ?_; rintro e w' ⟨rfl, hb⟩; obtain ⟨hc0, hf0, hz0⟩ := bl_at hb (k := w.heap.size) (by first | assumption | (simp; done) | (simp; omega)); obtain ⟨hc1, hf1, hz1⟩ := bl_at hb (k := w.heap.size + 1) (by first | assumption | (simp; done) | (simp; omega))) | (go_at_call 15; refine (toBlend_any _ _ _ _ _).mono ?_; rintro e w' ⟨rfl, hb⟩; obtain ⟨hc0, hf0, hz0⟩ := bl_at hb (k := w.heap.size) (by first | assumption | (simp; done) | (simp; omega)); obtain ⟨hc1, hf1, hz1⟩ := bl_at hb (k := w.heap.size + 1) (by first | assumption | (simp; done) | (simp; omega))) | (go_at_call 36; refine (specTin_any _ _ _ _ _ _ _ _).mono ?_; rintro e w' ⟨rfl, hb⟩; obtain ⟨hc0, hf0, hz0⟩ := bl_at hb (k := w.heap.size) (by first | assumption | (simp; done) | (simp; omega)); obtain ⟨hc1, hf1, hz1⟩ := bl_at hb (k := w.heap.size + 1) (by first | assumption | (simp; done) | (simp; omega))))
  go_wp2_with fail
  go_region_held3 (fun w' => w'.cell? ⟨w.heap.size, 0, none⟩ = some (.int .i64 l) ∧ w'.cell? ⟨w.heap.size, 1, none⟩ = some (.int .i64 t) ∧ w'.cell? ⟨w.heap.size, 2, none⟩ = some (.int .i64 a) ∧ w'.cell? ⟨w.heap.size + 1, 0, none⟩ = some (.int .i64 p) ∧ w'.cell? ⟨w.heap.size + 1, 1, none⟩ = some (.int .i64 q) ∧ w'.cell? ⟨w.heap.size + 1, 2, none⟩ = some (.int .i64 r) ∧ w'.cell? ⟨w.heap.size + 1, 3, none⟩ = some (.int .i64 s)) (go_keep) (first | (go_at_call 18; refine (toMelt_any _ _ _ _).mono ?_; rintro e w' ⟨rfl, hb⟩; obtain ⟨hc0, hf0, hz0⟩ := bl_at hb (k := w.heap.size) (by first | assumption | (simp; done) | (simp; omega)); obtain ⟨hc1, hf1, hz1⟩ := bl_at hb (k := w.heap.size + 1) (by first | assumption | (simp; done) | (simp; omega))) | (go_at_call 15; refine (toBlend_any _ _ _ _ _).mono ?_; rintro e w' ⟨rfl, hb⟩; obtain ⟨hc0, hf0, hz0⟩ := bl_at hb (k := w.heap.size) (by first | assumption | (simp; done) | (simp; omega)); obtain ⟨hc1, hf1, hz1⟩ := bl_at hb (k := w.heap.size + 1) (by first | assumption | (simp; done) | (simp; omega))) | (go_at_call 37; refine (implTin_any _ _ _ _ _ _ _ _).mono ?_; rintro e w' ⟨rfl, hb⟩; obtain ⟨hc0, hf0, hz0⟩ := bl_at hb (k := w.heap.size) (by first | assumption | (simp; done) | (simp; omega)); obtain ⟨hc1, hf1, hz1⟩ := bl_at hb (k := w.heap.size + 1) (by first | assumption | (simp; done) | (simp; omega))))
  go_wp2
  go_ret
  exact ⟨rfl, by repeat (first | (with_reducible exact Below.refl _ _) | (with_reducible assumption) | (with_reducible refine bl_alloc ?_ _) | (with_reducible refine bl_drew ?_) | (with_reducible refine bl_drewN ?_ _) | ((with_reducible refine bl_set ?_ ?hb _); (case hb => first | (simp; done) | omega | (simp; omega))) | (with_reducible refine bl_trans ?_ (by assumption)))⟩
def kA (l t a r : Int) : Int := r * (l + t + a) - 1000 * a
theorem soA_iff {l t a r n : Int} : soA l t a r n = true ↔ kA l t a r ≤ (1000 - r) * n := by
  have h1 : r * (l + t + a + n) = r * (l + t + a) + r * n := Int.mul_add _ _ _
  have h2 : (1000 - r) * n = 1000 * n - r * n := Int.sub_mul _ _ _
  unfold soA kA
  rw [decide_eq_true_eq]
  omega
theorem soA_mono {l t a r : Int} (h : r ≤ 1000) : ∀ i j, 0 ≤ i → i ≤ j → j ≤ 1000000 → soA l t a r i = true → soA l t a r j = true := by
  intro i j _ hij _ hi
  rw [soA_iff] at hi ⊢
  have : (1000 - r) * i ≤ (1000 - r) * j := Int.mul_le_mul_of_nonneg_left hij (by omega)
  omega
set_option maxHeartbeats 1000000 in
theorem specAntimony_yes (l t a p q r s : Int) (w : World) (h : askB l t a p q r s = true) : Calls Try.prog 34 #[.agg #[.int .i64 l, .int .i64 t, .int .i64 a], .agg #[.int .i64 p, .int .i64 q, .int .i64 r, .int .i64 s]] w (PairB (nV (kA l t a r) (1000 - r)) (nB (kA l t a r) (1000 - r)) w) := by
  obtain ⟨hm, hb, hS⟩ := ask_melt h
  obtain ⟨⟨h1, h2⟩, ⟨h3, h4⟩, h5, h6⟩ := melt_iff.1 hm
  obtain ⟨⟨k1, k2, k3⟩, k4, k5, k6⟩ := blend_iff.1 hb
  have HM := Lib.hid hm
  clear hm hb
  go_enter Try.func34, Try.ntmps34
  go_wp2_with fail
  (go_at_call 50; refine (meAsked_any _ _ _ _ _ _ _ _).mono ?_; rintro e w' ⟨rfl, hb⟩; obtain ⟨hc0, hf0, hz0⟩ := bl_at hb (k := w.heap.size) (by first | assumption | (simp; done) | (simp; omega)); obtain ⟨hc1, hf1, hz1⟩ := bl_at hb (k := w.heap.size + 1) (by first | assumption | (simp; done) | (simp; omega)))
  go_wp2_with fail
  go_region_held3 (fun w' => w'.cell? ⟨w.heap.size, 0, none⟩ = some (.int .i64 l) ∧ w'.cell? ⟨w.heap.size, 1, none⟩ = some (.int .i64 t) ∧ w'.cell? ⟨w.heap.size, 2, none⟩ = some (.int .i64 a) ∧ w'.cell? ⟨w.heap.size + 1, 0, none⟩ = some (.int .i64 p) ∧ w'.cell? ⟨w.heap.size + 1, 1, none⟩ = some (.int .i64 q) ∧ w'.cell? ⟨w.heap.size + 1, 2, none⟩ = some (.int .i64 r) ∧ w'.cell? ⟨w.heap.size + 1, 3, none⟩ = some (.int .i64 s)) (go_keep) (first | (go_at_call 44; refine (meGrams_any _ _ _ _ HM.out).mono ?_; rintro e w' ⟨rfl, hb⟩; obtain ⟨hc0, hf0, hz0⟩ := bl_at hb (k := w.heap.size) (by first | assumption | (simp; done) | (simp; omega)); obtain ⟨hc1, hf1, hz1⟩ := bl_at hb (k := w.heap.size + 1) (by first | assumption | (simp; done) | (simp; omega))) | (go_at_call 55; refine (meAdd_any _ _ _ _ (by omega) (by omega) (by omega) (by omega) (by omega) (by omega)).mono ?_; rintro e w' ⟨rfl, rfl⟩))
  go_wp2
  go_ret2
  exact ⟨rfl, by repeat (first | (with_reducible exact Below.refl _ _) | (with_reducible assumption) | (with_reducible refine bl_alloc ?_ _) | (with_reducible refine bl_drew ?_) | (with_reducible refine bl_drewN ?_ _) | ((with_reducible refine bl_set ?_ ?hb _); (case hb => first | (simp; done) | omega | (simp; omega))) | (with_reducible refine bl_trans ?_ (by assumption)))⟩
set_option maxHeartbeats 400000 in
theorem specAntimony_no (l t a p q r s : Int) (w : World) (h : askB l t a p q r s = false) : Calls Try.prog 34 #[.agg #[.int .i64 l, .int .i64 t, .int .i64 a], .agg #[.int .i64 p, .int .i64 q, .int .i64 r, .int .i64 s]] w (PairB 0 false w) := by
  go_enter Try.func34, Try.ntmps34
  go_wp2_with (go_at_call 50; refine (meAsked_any _ _ _ _ _ _ _ _).mono ?_; rintro e w' ⟨rfl, hb⟩; obtain ⟨hc0, hf0, hz0⟩ := bl_at hb (k := w.heap.size) (by first | assumption | (simp; done) | (simp; omega)); obtain ⟨hc1, hf1, hz1⟩ := bl_at hb (k := w.heap.size + 1) (by first | assumption | (simp; done) | (simp; omega)))
  go_ret2
  exact ⟨rfl, by repeat (first | (with_reducible exact Below.refl _ _) | (with_reducible assumption) | (with_reducible refine bl_alloc ?_ _) | (with_reducible refine bl_drew ?_) | (with_reducible refine bl_drewN ?_ _) | ((with_reducible refine bl_set ?_ ?hb _); (case hb => first | (simp; done) | omega | (simp; omega))) | (with_reducible refine bl_trans ?_ (by assumption)))⟩
set_option maxHeartbeats 1000000 in
theorem implAntimony_yes (l t a p q r s : Int) (w : World) (h : askB l t a p q r s = true) : Calls Try.prog 35 #[.agg #[.int .i64 l, .int .i64 t, .int .i64 a], .agg #[.int .i64 p, .int .i64 q, .int .i64 r, .int .i64 s]] w (PairB (nV (kA l t a r) (1000 - r)) (nB (kA l t a r) (1000 - r)) w) := by
  obtain ⟨hm, hb, hS⟩ := ask_melt h
  obtain ⟨⟨k1, k2, k3⟩, k4, k5, k6⟩ := blend_iff.1 hb
  have h4 : metalB l t a = true := by simp [metalB, hm, hS]
  obtain ⟨en, ey⟩ := one_end (k := kA l t a r) (d := 1000 - r) (by omega) (so := soA l t a r) (fun n _ _ => soA_iff)
  have HM := Lib.hid hm
  have HB := Lib.hid hb
  have HN := Lib.hid en
  have HY := Lib.hid ey
  clear hm en ey h
  go_enter Try.func35, Try.ntmps35
  go_wp2_with fail
  (go_at_call 52; refine (isMetal_any _ _ _ _).mono ?_; rintro e w' ⟨rfl, hb⟩; obtain ⟨hc0, hf0, hz0⟩ := bl_at hb (k := w.heap.size) (by first | assumption | (simp; done) | (simp; omega)); obtain ⟨hc1, hf1, hz1⟩ := bl_at hb (k := w.heap.size + 1) (by first | assumption | (simp; done) | (simp; omega)))
  go_wp2_with fail
  (go_at_call 16; refine (implIsBlend_any _ _ _ _ _).mono ?_; rintro e w' ⟨rfl, hb⟩; obtain ⟨hc0, hf0, hz0⟩ := bl_at hb (k := w.heap.size) (by first | assumption | (simp; done) | (simp; omega)); obtain ⟨hc1, hf1, hz1⟩ := bl_at hb (k := w.heap.size + 1) (by first | assumption | (simp; done) | (simp; omega)))
  go_wp2_with fail
  have hm0 : MeltAt w' w.heap.size l t a := ⟨by go_simp, by go_simp, by go_simp⟩
  have hb0 : BlendAt w' (w.heap.size + 1) p q r s := ⟨by go_simp, by go_simp, by go_simp, by go_simp⟩
  refine (leastA_any (soA l t a r) w.heap.size (w.heap.size + 1) _ (soA_mono (by omega)) (fun n W n0 n1 hW => cloA_any l t a p q r s n _ _ W HM.out HB.out n0 n1 (hm0.below hW hz0) (hb0.below hW hz1) (Nat.lt_of_lt_of_le hz0 hW.size) (Nat.lt_of_lt_of_le hz1 hW.size))).mono ?_
  rintro e w3 ⟨he, hb3⟩
  rcases he with ⟨hf, rfl⟩ | ⟨x, ht, hl, rfl⟩
  · obtain ⟨e1, e2⟩ := HN.out hf
    have E1 := Lib.hid e1
    have E2 := Lib.hid e2
    clear e1 e2 hf
    go_wp2
    go_ret2
    exact pair_b E2.out.symm E1.out.symm (by repeat (first | (with_reducible exact Below.refl _ _) | (with_reducible assumption) | (with_reducible refine bl_alloc ?_ _) | (with_reducible refine bl_drew ?_) | (with_reducible refine bl_drewN ?_ _) | ((with_reducible refine bl_set ?_ ?hb _); (case hb => first | (simp; done) | omega | (simp; omega))) | (with_reducible refine bl_trans ?_ (by assumption))))
  · obtain ⟨e1, e2⟩ := HY.out x ht hl
    have E1 := Lib.hid e1
    have E2 := Lib.hid e2
    clear e1 e2 ht hl
    go_wp2
    go_ret2
    exact pair_b E2.out.symm E1.out.symm (by repeat (first | (with_reducible exact Below.refl _ _) | (with_reducible assumption) | (with_reducible refine bl_alloc ?_ _) | (with_reducible refine bl_drew ?_) | (with_reducible refine bl_drewN ?_ _) | ((with_reducible refine bl_set ?_ ?hb _); (case hb => first | (simp; done) | omega | (simp; omega))) | (with_reducible refine bl_trans ?_ (by assumption))))
set_option maxHeartbeats 400000 in
theorem implAntimony_no (l t a p q r s : Int) (w : World) (h : askB l t a p q r s = false) : Calls Try.prog 35 #[.agg #[.int .i64 l, .int .i64 t, .int .i64 a], .agg #[.int .i64 p, .int .i64 q, .int .i64 r, .int .i64 s]] w (PairB 0 false w) := by
  have H := Lib.hid h
  clear h
  by_cases h4 : metalB l t a = true
  · have h5 : blendB p q r s = false := by have := H.out; simpa [askB, h4] using this
    go_enter Try.func35, Try.ntmps35
    go_wp2_with (first | (go_at_call 52; refine (isMetal_any _ _ _ _).mono ?_; rintro e w' ⟨rfl, hb⟩; obtain ⟨hc0, hf0, hz0⟩ := bl_at hb (k := w.heap.size) (by first | assumption | (simp; done) | (simp; omega)); obtain ⟨hc1, hf1, hz1⟩ := bl_at hb (k := w.heap.size + 1) (by first | assumption | (simp; done) | (simp; omega))) | (go_at_call 16; refine (implIsBlend_any _ _ _ _ _).mono ?_; rintro e w' ⟨rfl, hb⟩; obtain ⟨hc0, hf0, hz0⟩ := bl_at hb (k := w.heap.size) (by first | assumption | (simp; done) | (simp; omega)); obtain ⟨hc1, hf1, hz1⟩ := bl_at hb (k := w.heap.size + 1) (by first | assumption | (simp; done) | (simp; omega))))
    go_ret2
    exact ⟨rfl, by repeat (first | (with_reducible exact Below.refl _ _) | (with_reducible assumption) | (with_reducible refine bl_alloc ?_ _) | (with_reducible refine bl_drew ?_) | (with_reducible refine bl_drewN ?_ _) | ((with_reducible refine bl_set ?_ ?hb _); (case hb => first | (simp; done) | omega | (simp; omega))) | (with_reducible refine bl_trans ?_ (by assumption)))⟩
  · have h4' : metalB l t a = false := by simpa using h4
    clear h4
    go_enter Try.func35, Try.ntmps35
    go_wp2_with (first | (go_at_call 52; refine (isMetal_any _ _ _ _).mono ?_; rintro e w' ⟨rfl, hb⟩; obtain ⟨hc0, hf0, hz0⟩ := bl_at hb (k := w.heap.size) (by first | assumption | (simp; done) | (simp; omega)); obtain ⟨hc1, hf1, hz1⟩ := bl_at hb (k := w.heap.size + 1) (by first | assumption | (simp; done) | (simp; omega))))
    go_ret2
    exact ⟨rfl, by repeat (first | (with_reducible exact Below.refl _ _) | (with_reducible assumption) | (with_reducible refine bl_alloc ?_ _) | (with_reducible refine bl_drew ?_) | (with_reducible refine bl_drewN ?_ _) | ((with_reducible refine bl_set ?_ ?hb _); (case hb => first | (simp; done) | omega | (simp; omega))) | (with_reducible refine bl_trans ?_ (by assumption)))⟩
def vAntimony (l t a p q r s : Int) : Int := oV (askB l t a p q r s) (nV (kA l t a r) (1000 - r))
def bAntimony (l t a p q r s : Int) : Bool := askB l t a p q r s && nB (kA l t a r) (1000 - r)
theorem specAntimony_any (l t a p q r s : Int) (w : World) : Calls Try.prog 34 #[.agg #[.int .i64 l, .int .i64 t, .int .i64 a], .agg #[.int .i64 p, .int .i64 q, .int .i64 r, .int .i64 s]] w (PairB (vAntimony l t a p q r s) (bAntimony l t a p q r s) w) := by
  rcases h : askB l t a p q r s with _ | _
  · simp only [vAntimony, bAntimony, h, oV, Bool.false_and, Bool.false_eq_true, if_false]; exact specAntimony_no l t a p q r s w h
  · simp only [vAntimony, bAntimony, h, oV, Bool.true_and, if_true]; exact specAntimony_yes l t a p q r s w h
theorem implAntimony_any (l t a p q r s : Int) (w : World) : Calls Try.prog 35 #[.agg #[.int .i64 l, .int .i64 t, .int .i64 a], .agg #[.int .i64 p, .int .i64 q, .int .i64 r, .int .i64 s]] w (PairB (vAntimony l t a p q r s) (bAntimony l t a p q r s) w) := by
  rcases h : askB l t a p q r s with _ | _
  · simp only [vAntimony, bAntimony, h, oV, Bool.false_and, Bool.false_eq_true, if_false]; exact implAntimony_no l t a p q r s w h
  · simp only [vAntimony, bAntimony, h, oV, Bool.true_and, if_true]; exact implAntimony_yes l t a p q r s w h
set_option maxHeartbeats 1000000 in
theorem lawAntimonyToAdd (l t a p q r s : Int) (w : World) (_ : I64 l) (_ : I64 t) (_ : I64 a) (_ : I64 p) (_ : I64 q) (_ : I64 r) (_ : I64 s) : Calls Try.prog 11 #[.agg #[.int .i64 l, .int .i64 t, .int .i64 a], .agg #[.int .i64 p, .int .i64 q, .int .i64 r, .int .i64 s]] w fun e w' => e = .returned (.bool (true)) ∧ Below w.heap.size w w' := by
  go_enter Try.func11, Try.ntmps11
  go_wp2_with fail
  go_region_held3 (fun w' => w'.cell? ⟨w.heap.size, 0, none⟩ = some (.int .i64 l) ∧ w'.cell? ⟨w.heap.size, 1, none⟩ = some (.int .i64 t) ∧ w'.cell? ⟨w.heap.size, 2, none⟩ = some (.int .i64 a) ∧ w'.cell? ⟨w.heap.size + 1, 0, none⟩ = some (.int .i64 p) ∧ w'.cell? ⟨w.heap.size + 1, 1, none⟩ = some (.int .i64 q) ∧ w'.cell? ⟨w.heap.size + 1, 2, none⟩ = some (.int .i64 r) ∧ w'.cell? ⟨w.heap.size + 1, 3, none⟩ = some (.int .i64 s)) (go_keep) (first | (go_at_call 18; refine (toMelt_any _ _ _ _).mono ?_; rintro e w' ⟨rfl, hb⟩; obtain ⟨hc0, hf0, hz0⟩ := bl_at hb (k := w.heap.size) (by first | assumption | (simp; done) | (simp; omega)); obtain ⟨hc1, hf1, hz1⟩ := bl_at hb (k := w.heap.size + 1) (by first | assumption | (simp; done) | (simp; omega))) | (go_at_call 15; refine (toBlend_any _ _ _ _ _).mono ?_; rintro e w' ⟨rfl, hb⟩; obtain ⟨hc0, hf0, hz0⟩ := bl_at hb (k := w.heap.size) (by first | assumption | (simp; done) | (simp; omega)); obtain ⟨hc1, hf1, hz1⟩ := bl_at hb (k := w.heap.size + 1) (by first | assumption | (simp; done) | (simp; omega))) | (go_at_call 34; refine (specAntimony_any _ _ _ _ _ _ _ _).mono ?_; rintro e w' ⟨rfl, hb⟩; obtain ⟨hc0, hf0, hz0⟩ := bl_at hb (k := w.heap.size) (by first | assumption | (simp; done) | (simp; omega)); obtain ⟨hc1, hf1, hz1⟩ := bl_at hb (k := w.heap.size + 1) (by first | assumption | (simp; done) | (simp; omega))))
  go_wp2_with fail
  go_region_held3 (fun w' => w'.cell? ⟨w.heap.size, 0, none⟩ = some (.int .i64 l) ∧ w'.cell? ⟨w.heap.size, 1, none⟩ = some (.int .i64 t) ∧ w'.cell? ⟨w.heap.size, 2, none⟩ = some (.int .i64 a) ∧ w'.cell? ⟨w.heap.size + 1, 0, none⟩ = some (.int .i64 p) ∧ w'.cell? ⟨w.heap.size + 1, 1, none⟩ = some (.int .i64 q) ∧ w'.cell? ⟨w.heap.size + 1, 2, none⟩ = some (.int .i64 r) ∧ w'.cell? ⟨w.heap.size + 1, 3, none⟩ = some (.int .i64 s)) (go_keep) (first | (go_at_call 18; refine (toMelt_any _ _ _ _).mono ?_; rintro e w' ⟨rfl, hb⟩; obtain ⟨hc0, hf0, hz0⟩ := bl_at hb (k := w.heap.size) (by first | assumption | (simp; done) | (simp; omega)); obtain ⟨hc1, hf1, hz1⟩ := bl_at hb (k := w.heap.size + 1) (by first | assumption | (simp; done) | (simp; omega))) | (go_at_call 15; refine (toBlend_any _ _ _ _ _).mono ?_; rintro e w' ⟨rfl, hb⟩; obtain ⟨hc0, hf0, hz0⟩ := bl_at hb (k := w.heap.size) (by first | assumption | (simp; done) | (simp; omega)); obtain ⟨hc1, hf1, hz1⟩ := bl_at hb (k := w.heap.size + 1) (by first | assumption | (simp; done) | (simp; omega))) | (go_at_call 35; refine (implAntimony_any _ _ _ _ _ _ _ _).mono ?_; rintro e w' ⟨rfl, hb⟩; obtain ⟨hc0, hf0, hz0⟩ := bl_at hb (k := w.heap.size) (by first | assumption | (simp; done) | (simp; omega)); obtain ⟨hc1, hf1, hz1⟩ := bl_at hb (k := w.heap.size + 1) (by first | assumption | (simp; done) | (simp; omega))))
  go_wp2
  go_ret
  exact ⟨rfl, by repeat (first | (with_reducible exact Below.refl _ _) | (with_reducible assumption) | (with_reducible refine bl_alloc ?_ _) | (with_reducible refine bl_drew ?_) | (with_reducible refine bl_drewN ?_ _) | ((with_reducible refine bl_set ?_ ?hb _); (case hb => first | (simp; done) | omega | (simp; omega))) | (with_reducible refine bl_trans ?_ (by assumption)))⟩
def kL1 (l t a q : Int) : Int := 1000 * t - q * (l + t + a)
def kL2 (l t a s : Int) : Int := 1000 * a - s * (l + t + a)
theorem soL_iff {l t a q s n : Int} : soL l t a q s n = true ↔ kL1 l t a q ≤ q * n ∧ kL2 l t a s ≤ s * n := by
  have h1 : q * (l + t + a + n) = q * (l + t + a) + q * n := Int.mul_add _ _ _
  have h2 : s * (l + t + a + n) = s * (l + t + a) + s * n := Int.mul_add _ _ _
  unfold soL kL1 kL2
  rw [Bool.and_eq_true, decide_eq_true_eq, decide_eq_true_eq]
  omega
theorem soL_mono {l t a q s : Int} (hq : 0 ≤ q) (hs : 0 ≤ s) : ∀ i j, 0 ≤ i → i ≤ j → j ≤ 1000000 → soL l t a q s i = true → soL l t a q s j = true := by
  intro i j _ hij _ hi
  rw [soL_iff] at hi ⊢
  have h1 : q * i ≤ q * j := Int.mul_le_mul_of_nonneg_left hij hq
  have h2 : s * i ≤ s * j := Int.mul_le_mul_of_nonneg_left hij hs
  omega
set_option maxHeartbeats 1000000 in
theorem specLead_yes (l t a p q r s : Int) (w : World) (h : askB l t a p q r s = true) : Calls Try.prog 38 #[.agg #[.int .i64 l, .int .i64 t, .int .i64 a], .agg #[.int .i64 p, .int .i64 q, .int .i64 r, .int .i64 s]] w (PairB (twoV (kL1 l t a q) q (kL2 l t a s) s) (twoB (kL1 l t a q) q (kL2 l t a s) s) w) := by
  obtain ⟨hm, hb, hS⟩ := ask_melt h
  obtain ⟨⟨h1, h2⟩, ⟨h3, h4⟩, h5, h6⟩ := melt_iff.1 hm
  obtain ⟨⟨k1, k2, k3⟩, k4, k5, k6⟩ := blend_iff.1 hb
  have HM := Lib.hid hm
  have F : ∀ b1 b2, nB (kL1 l t a q) q = b1 → nB (kL2 l t a s) s = b2 → twoB (kL1 l t a q) q (kL2 l t a s) s = (b1 && b2) ∧ twoV (kL1 l t a q) q (kL2 l t a s) s = oV (b1 && b2) (max (nV (kL1 l t a q) q) (nV (kL2 l t a s) s)) := by
    intro b1 b2 e1 e2
    simp only [twoV, twoB, e1, e2, oV, and_self]
  have HF := Lib.hid F
  clear hm hb F
  rcases hb1 : nB (kL1 l t a q) q with _ | _ <;> rcases hb2 : nB (kL2 l t a s) s with _ | _
  all_goals
    obtain ⟨E1, E2⟩ := HF.out _ _ hb1 hb2
    have E1 := Lib.hid E1
    have E2 := Lib.hid E2
    go_enter Try.func38, Try.ntmps38
    go_wp2_with fail
    (go_at_call 50; refine (meAsked_any _ _ _ _ _ _ _ _).mono ?_; rintro e w' ⟨rfl, hb⟩; obtain ⟨hc0, hf0, hz0⟩ := bl_at hb (k := w.heap.size) (by first | assumption | (simp; done) | (simp; omega)); obtain ⟨hc1, hf1, hz1⟩ := bl_at hb (k := w.heap.size + 1) (by first | assumption | (simp; done) | (simp; omega)))
    go_wp2_with fail
    go_region_held3 (fun w' => w'.cell? ⟨w.heap.size, 0, none⟩ = some (.int .i64 l) ∧ w'.cell? ⟨w.heap.size, 1, none⟩ = some (.int .i64 t) ∧ w'.cell? ⟨w.heap.size, 2, none⟩ = some (.int .i64 a) ∧ w'.cell? ⟨w.heap.size + 1, 0, none⟩ = some (.int .i64 p) ∧ w'.cell? ⟨w.heap.size + 1, 1, none⟩ = some (.int .i64 q) ∧ w'.cell? ⟨w.heap.size + 1, 2, none⟩ = some (.int .i64 r) ∧ w'.cell? ⟨w.heap.size + 1, 3, none⟩ = some (.int .i64 s)) (go_keep) (first | (go_at_call 44; refine (meGrams_any _ _ _ _ HM.out).mono ?_; rintro e w' ⟨rfl, hb⟩; obtain ⟨hc0, hf0, hz0⟩ := bl_at hb (k := w.heap.size) (by first | assumption | (simp; done) | (simp; omega)); obtain ⟨hc1, hf1, hz1⟩ := bl_at hb (k := w.heap.size + 1) (by first | assumption | (simp; done) | (simp; omega))) | (go_at_call 59; refine (meThin_any _ _ _ _ (by omega) (by omega) (by omega) (by omega) (by omega) (by omega)).mono ?_; rintro e w' ⟨rfl, rfl⟩))
    go_wp2_with fail
    go_region_held3 (fun w' => w'.cell? ⟨w.heap.size, 0, none⟩ = some (.int .i64 l) ∧ w'.cell? ⟨w.heap.size, 1, none⟩ = some (.int .i64 t) ∧ w'.cell? ⟨w.heap.size, 2, none⟩ = some (.int .i64 a) ∧ w'.cell? ⟨w.heap.size + 1, 0, none⟩ = some (.int .i64 p) ∧ w'.cell? ⟨w.heap.size + 1, 1, none⟩ = some (.int .i64 q) ∧ w'.cell? ⟨w.heap.size + 1, 2, none⟩ = some (.int .i64 r) ∧ w'.cell? ⟨w.heap.size + 1, 3, none⟩ = some (.int .i64 s)) (go_keep) (first | (go_at_call 44; refine (meGrams_any _ _ _ _ HM.out).mono ?_; rintro e w' ⟨rfl, hb⟩; obtain ⟨hc0, hf0, hz0⟩ := bl_at hb (k := w.heap.size) (by first | assumption | (simp; done) | (simp; omega)); obtain ⟨hc1, hf1, hz1⟩ := bl_at hb (k := w.heap.size + 1) (by first | assumption | (simp; done) | (simp; omega))) | (go_at_call 59; refine (meThin_any _ _ _ _ (by omega) (by omega) (by omega) (by omega) (by omega) (by omega)).mono ?_; rintro e w' ⟨rfl, rfl⟩))
    have hb1' : nB (1000 * t - q * (l + t + a)) q = _ := hb1
    have hb2' : nB (1000 * a - s * (l + t + a)) s = _ := hb2
    go_wp2_with (go_at_call 60; refine (l1Most_any _ _ _).mono ?_; rintro e w' ⟨rfl, rfl⟩)
    go_ret2
    exact pair_b E2.out.symm E1.out.symm (by repeat (first | (with_reducible exact Below.refl _ _) | (with_reducible assumption) | (with_reducible refine bl_alloc ?_ _) | (with_reducible refine bl_drew ?_) | (with_reducible refine bl_drewN ?_ _) | ((with_reducible refine bl_set ?_ ?hb _); (case hb => first | (simp; done) | omega | (simp; omega))) | (with_reducible refine bl_trans ?_ (by assumption))))
set_option maxHeartbeats 400000 in
theorem specLead_no (l t a p q r s : Int) (w : World) (h : askB l t a p q r s = false) : Calls Try.prog 38 #[.agg #[.int .i64 l, .int .i64 t, .int .i64 a], .agg #[.int .i64 p, .int .i64 q, .int .i64 r, .int .i64 s]] w (PairB 0 false w) := by
  go_enter Try.func38, Try.ntmps38
  go_wp2_with (go_at_call 50; refine (meAsked_any _ _ _ _ _ _ _ _).mono ?_; rintro e w' ⟨rfl, hb⟩; obtain ⟨hc0, hf0, hz0⟩ := bl_at hb (k := w.heap.size) (by first | assumption | (simp; done) | (simp; omega)); obtain ⟨hc1, hf1, hz1⟩ := bl_at hb (k := w.heap.size + 1) (by first | assumption | (simp; done) | (simp; omega)))
  go_ret2
  exact ⟨rfl, by repeat (first | (with_reducible exact Below.refl _ _) | (with_reducible assumption) | (with_reducible refine bl_alloc ?_ _) | (with_reducible refine bl_drew ?_) | (with_reducible refine bl_drewN ?_ _) | ((with_reducible refine bl_set ?_ ?hb _); (case hb => first | (simp; done) | omega | (simp; omega))) | (with_reducible refine bl_trans ?_ (by assumption)))⟩
set_option maxHeartbeats 1000000 in
theorem implLead_yes (l t a p q r s : Int) (w : World) (h : askB l t a p q r s = true) : Calls Try.prog 39 #[.agg #[.int .i64 l, .int .i64 t, .int .i64 a], .agg #[.int .i64 p, .int .i64 q, .int .i64 r, .int .i64 s]] w (PairB (twoV (kL1 l t a q) q (kL2 l t a s) s) (twoB (kL1 l t a q) q (kL2 l t a s) s) w) := by
  obtain ⟨hm, hb, hS⟩ := ask_melt h
  obtain ⟨⟨k1, k2, k3⟩, k4, k5, k6⟩ := blend_iff.1 hb
  have h4 : metalB l t a = true := by simp [metalB, hm, hS]
  obtain ⟨en, ey⟩ := two_end (k1 := kL1 l t a q) (d1 := q) (k2 := kL2 l t a s) (d2 := s) (by omega) (by omega) (so := soL l t a q s) (fun n _ _ => soL_iff)
  have HM := Lib.hid hm
  have HB := Lib.hid hb
  have HN := Lib.hid en
  have HY := Lib.hid ey
  clear hm en ey h
  go_enter Try.func39, Try.ntmps39
  go_wp2_with fail
  (go_at_call 52; refine (isMetal_any _ _ _ _).mono ?_; rintro e w' ⟨rfl, hb⟩; obtain ⟨hc0, hf0, hz0⟩ := bl_at hb (k := w.heap.size) (by first | assumption | (simp; done) | (simp; omega)); obtain ⟨hc1, hf1, hz1⟩ := bl_at hb (k := w.heap.size + 1) (by first | assumption | (simp; done) | (simp; omega)))
  go_wp2_with fail
  (go_at_call 16; refine (implIsBlend_any _ _ _ _ _).mono ?_; rintro e w' ⟨rfl, hb⟩; obtain ⟨hc0, hf0, hz0⟩ := bl_at hb (k := w.heap.size) (by first | assumption | (simp; done) | (simp; omega)); obtain ⟨hc1, hf1, hz1⟩ := bl_at hb (k := w.heap.size + 1) (by first | assumption | (simp; done) | (simp; omega)))
  go_wp2_with fail
  have hm0 : MeltAt w' w.heap.size l t a := ⟨by go_simp, by go_simp, by go_simp⟩
  have hb0 : BlendAt w' (w.heap.size + 1) p q r s := ⟨by go_simp, by go_simp, by go_simp, by go_simp⟩
  refine (leastL_any (soL l t a q s) w.heap.size (w.heap.size + 1) _ (soL_mono (by omega) (by omega)) (fun n W n0 n1 hW => cloL_any l t a p q r s n _ _ W HM.out HB.out n0 n1 (hm0.below hW hz0) (hb0.below hW hz1) (Nat.lt_of_lt_of_le hz0 hW.size) (Nat.lt_of_lt_of_le hz1 hW.size))).mono ?_
  rintro e w3 ⟨he, hb3⟩
  rcases he with ⟨hf, rfl⟩ | ⟨x, ht, hl, rfl⟩
  · obtain ⟨e1, e2⟩ := HN.out hf
    have E1 := Lib.hid e1
    have E2 := Lib.hid e2
    clear e1 e2 hf
    go_wp2
    go_ret2
    exact pair_b E2.out.symm E1.out.symm (by repeat (first | (with_reducible exact Below.refl _ _) | (with_reducible assumption) | (with_reducible refine bl_alloc ?_ _) | (with_reducible refine bl_drew ?_) | (with_reducible refine bl_drewN ?_ _) | ((with_reducible refine bl_set ?_ ?hb _); (case hb => first | (simp; done) | omega | (simp; omega))) | (with_reducible refine bl_trans ?_ (by assumption))))
  · obtain ⟨e1, e2⟩ := HY.out x ht hl
    have E1 := Lib.hid e1
    have E2 := Lib.hid e2
    clear e1 e2 ht hl
    go_wp2
    go_ret2
    exact pair_b E2.out.symm E1.out.symm (by repeat (first | (with_reducible exact Below.refl _ _) | (with_reducible assumption) | (with_reducible refine bl_alloc ?_ _) | (with_reducible refine bl_drew ?_) | (with_reducible refine bl_drewN ?_ _) | ((with_reducible refine bl_set ?_ ?hb _); (case hb => first | (simp; done) | omega | (simp; omega))) | (with_reducible refine bl_trans ?_ (by assumption))))
set_option maxHeartbeats 400000 in
theorem implLead_no (l t a p q r s : Int) (w : World) (h : askB l t a p q r s = false) : Calls Try.prog 39 #[.agg #[.int .i64 l, .int .i64 t, .int .i64 a], .agg #[.int .i64 p, .int .i64 q, .int .i64 r, .int .i64 s]] w (PairB 0 false w) := by
  have H := Lib.hid h
  clear h
  by_cases h4 : metalB l t a = true
  · have h5 : blendB p q r s = false := by have := H.out; simpa [askB, h4] using this
    go_enter Try.func39, Try.ntmps39
    go_wp2_with (first | (go_at_call 52; refine (isMetal_any _ _ _ _).mono ?_; rintro e w' ⟨rfl, hb⟩; obtain ⟨hc0, hf0, hz0⟩ := bl_at hb (k := w.heap.size) (by first | assumption | (simp; done) | (simp; omega)); obtain ⟨hc1, hf1, hz1⟩ := bl_at hb (k := w.heap.size + 1) (by first | assumption | (simp; done) | (simp; omega))) | (go_at_call 16; refine (implIsBlend_any _ _ _ _ _).mono ?_; rintro e w' ⟨rfl, hb⟩; obtain ⟨hc0, hf0, hz0⟩ := bl_at hb (k := w.heap.size) (by first | assumption | (simp; done) | (simp; omega)); obtain ⟨hc1, hf1, hz1⟩ := bl_at hb (k := w.heap.size + 1) (by first | assumption | (simp; done) | (simp; omega))))
    go_ret2
    exact ⟨rfl, by repeat (first | (with_reducible exact Below.refl _ _) | (with_reducible assumption) | (with_reducible refine bl_alloc ?_ _) | (with_reducible refine bl_drew ?_) | (with_reducible refine bl_drewN ?_ _) | ((with_reducible refine bl_set ?_ ?hb _); (case hb => first | (simp; done) | omega | (simp; omega))) | (with_reducible refine bl_trans ?_ (by assumption)))⟩
  · have h4' : metalB l t a = false := by simpa using h4
    clear h4
    go_enter Try.func39, Try.ntmps39
    go_wp2_with (first | (go_at_call 52; refine (isMetal_any _ _ _ _).mono ?_; rintro e w' ⟨rfl, hb⟩; obtain ⟨hc0, hf0, hz0⟩ := bl_at hb (k := w.heap.size) (by first | assumption | (simp; done) | (simp; omega)); obtain ⟨hc1, hf1, hz1⟩ := bl_at hb (k := w.heap.size + 1) (by first | assumption | (simp; done) | (simp; omega))))
    go_ret2
    exact ⟨rfl, by repeat (first | (with_reducible exact Below.refl _ _) | (with_reducible assumption) | (with_reducible refine bl_alloc ?_ _) | (with_reducible refine bl_drew ?_) | (with_reducible refine bl_drewN ?_ _) | ((with_reducible refine bl_set ?_ ?hb _); (case hb => first | (simp; done) | omega | (simp; omega))) | (with_reducible refine bl_trans ?_ (by assumption)))⟩
def vLead (l t a p q r s : Int) : Int := oV (askB l t a p q r s) (twoV (kL1 l t a q) q (kL2 l t a s) s)
def bLead (l t a p q r s : Int) : Bool := askB l t a p q r s && twoB (kL1 l t a q) q (kL2 l t a s) s
theorem specLead_any (l t a p q r s : Int) (w : World) : Calls Try.prog 38 #[.agg #[.int .i64 l, .int .i64 t, .int .i64 a], .agg #[.int .i64 p, .int .i64 q, .int .i64 r, .int .i64 s]] w (PairB (vLead l t a p q r s) (bLead l t a p q r s) w) := by
  rcases h : askB l t a p q r s with _ | _
  · simp only [vLead, bLead, h, oV, Bool.false_and, Bool.false_eq_true, if_false]; exact specLead_no l t a p q r s w h
  · simp only [vLead, bLead, h, oV, Bool.true_and, if_true]; exact specLead_yes l t a p q r s w h
theorem implLead_any (l t a p q r s : Int) (w : World) : Calls Try.prog 39 #[.agg #[.int .i64 l, .int .i64 t, .int .i64 a], .agg #[.int .i64 p, .int .i64 q, .int .i64 r, .int .i64 s]] w (PairB (vLead l t a p q r s) (bLead l t a p q r s) w) := by
  rcases h : askB l t a p q r s with _ | _
  · simp only [vLead, bLead, h, oV, Bool.false_and, Bool.false_eq_true, if_false]; exact implLead_no l t a p q r s w h
  · simp only [vLead, bLead, h, oV, Bool.true_and, if_true]; exact implLead_yes l t a p q r s w h
set_option maxHeartbeats 1000000 in
theorem lawLeadToAdd (l t a p q r s : Int) (w : World) (_ : I64 l) (_ : I64 t) (_ : I64 a) (_ : I64 p) (_ : I64 q) (_ : I64 r) (_ : I64 s) : Calls Try.prog 13 #[.agg #[.int .i64 l, .int .i64 t, .int .i64 a], .agg #[.int .i64 p, .int .i64 q, .int .i64 r, .int .i64 s]] w fun e w' => e = .returned (.bool (true)) ∧ Below w.heap.size w w' := by
  go_enter Try.func13, Try.ntmps13
  go_wp2_with fail
  go_region_held3 (fun w' => w'.cell? ⟨w.heap.size, 0, none⟩ = some (.int .i64 l) ∧ w'.cell? ⟨w.heap.size, 1, none⟩ = some (.int .i64 t) ∧ w'.cell? ⟨w.heap.size, 2, none⟩ = some (.int .i64 a) ∧ w'.cell? ⟨w.heap.size + 1, 0, none⟩ = some (.int .i64 p) ∧ w'.cell? ⟨w.heap.size + 1, 1, none⟩ = some (.int .i64 q) ∧ w'.cell? ⟨w.heap.size + 1, 2, none⟩ = some (.int .i64 r) ∧ w'.cell? ⟨w.heap.size + 1, 3, none⟩ = some (.int .i64 s)) (go_keep) (first | (go_at_call 18; refine (toMelt_any _ _ _ _).mono ?_; rintro e w' ⟨rfl, hb⟩; obtain ⟨hc0, hf0, hz0⟩ := bl_at hb (k := w.heap.size) (by first | assumption | (simp; done) | (simp; omega)); obtain ⟨hc1, hf1, hz1⟩ := bl_at hb (k := w.heap.size + 1) (by first | assumption | (simp; done) | (simp; omega))) | (go_at_call 15; refine (toBlend_any _ _ _ _ _).mono ?_; rintro e w' ⟨rfl, hb⟩; obtain ⟨hc0, hf0, hz0⟩ := bl_at hb (k := w.heap.size) (by first | assumption | (simp; done) | (simp; omega)); obtain ⟨hc1, hf1, hz1⟩ := bl_at hb (k := w.heap.size + 1) (by first | assumption | (simp; done) | (simp; omega))) | (go_at_call 38; refine (specLead_any _ _ _ _ _ _ _ _).mono ?_; rintro e w' ⟨rfl, hb⟩; obtain ⟨hc0, hf0, hz0⟩ := bl_at hb (k := w.heap.size) (by first | assumption | (simp; done) | (simp; omega)); obtain ⟨hc1, hf1, hz1⟩ := bl_at hb (k := w.heap.size + 1) (by first | assumption | (simp; done) | (simp; omega))))
  go_wp2_with fail
  go_region_held3 (fun w' => w'.cell? ⟨w.heap.size, 0, none⟩ = some (.int .i64 l) ∧ w'.cell? ⟨w.heap.size, 1, none⟩ = some (.int .i64 t) ∧ w'.cell? ⟨w.heap.size, 2, none⟩ = some (.int .i64 a) ∧ w'.cell? ⟨w.heap.size + 1, 0, none⟩ = some (.int .i64 p) ∧ w'.cell? ⟨w.heap.size + 1, 1, none⟩ = some (.int .i64 q) ∧ w'.cell? ⟨w.heap.size + 1, 2, none⟩ = some (.int .i64 r) ∧ w'.cell? ⟨w.heap.size + 1, 3, none⟩ = some (.int .i64 s)) (go_keep) (first | (go_at_call 18; refine (toMelt_any _ _ _ _).mono ?_; rintro e w' ⟨rfl, hb⟩; obtain ⟨hc0, hf0, hz0⟩ := bl_at hb (k := w.heap.size) (by first | assumption | (simp; done) | (simp; omega)); obtain ⟨hc1, hf1, hz1⟩ := bl_at hb (k := w.heap.size + 1) (by first | assumption | (simp; done) | (simp; omega))) | (go_at_call 15; refine (toBlend_any _ _ _ _ _).mono ?_; rintro e w' ⟨rfl, hb⟩; obtain ⟨hc0, hf0, hz0⟩ := bl_at hb (k := w.heap.size) (by first | assumption | (simp; done) | (simp; omega)); obtain ⟨hc1, hf1, hz1⟩ := bl_at hb (k := w.heap.size + 1) (by first | assumption | (simp; done) | (simp; omega))) | (go_at_call 39; refine (implLead_any _ _ _ _ _ _ _ _).mono ?_; rintro e w' ⟨rfl, hb⟩; obtain ⟨hc0, hf0, hz0⟩ := bl_at hb (k := w.heap.size) (by first | assumption | (simp; done) | (simp; omega)); obtain ⟨hc1, hf1, hz1⟩ := bl_at hb (k := w.heap.size + 1) (by first | assumption | (simp; done) | (simp; omega))))
  go_wp2
  go_ret
  exact ⟨rfl, by repeat (first | (with_reducible exact Below.refl _ _) | (with_reducible assumption) | (with_reducible refine bl_alloc ?_ _) | (with_reducible refine bl_drew ?_) | (with_reducible refine bl_drewN ?_ _) | ((with_reducible refine bl_set ?_ ?hb _); (case hb => first | (simp; done) | omega | (simp; omega))) | (with_reducible refine bl_trans ?_ (by assumption)))⟩
end Go.Proofs.Ytnhdgjcobngolaa
