/-
  CentreStrike, FileStrike: contracts and the laws' walks.
-/
import Derived.Test.YtbklljbjggoiaaaMa1
import Derived.Test.YtbklljbjggoiaaaCom
namespace Go.Proofs.Ytbklljbjggoiaaa
open Go.RowKit
set_option linter.unusedVariables false
attribute [local go_sem ↓] Go.wp_at_zero Go.wp_at_succ

def ceOut (a b c d f : Int) : Value := .tuple #[.agg #[.int .i64 (oV (strikeB a b c d f) a), .int .i64 (oV (strikeB a b c d f) (min b d)), .int .i64 (oV (strikeB a b c d f) c), .int .i64 (oV (strikeB a b c d f) (min b d)), .int .i64 (oV (strikeB a b c d f) f)], .bool (strikeB a b c d f)]
theorem ceOut_no {a b c d f : Int} (h : strikeB a b c d f = false) : ceOut a b c d f = .tuple #[.agg #[.int .i64 0, .int .i64 0, .int .i64 0, .int .i64 0, .int .i64 0], .bool false] := by simp [ceOut, h, oV]
theorem ceOut_yes {a b c d f m : Int} (h : strikeB a b c d f = true) (hm : m = min b d) : ceOut a b c d f = .tuple #[.agg #[.int .i64 a, .int .i64 m, .int .i64 c, .int .i64 m, .int .i64 f], .bool true] := by subst hm; simp [ceOut, h, oV]
set_option maxHeartbeats 400000 in
theorem specCentre_any (a b c d f : Int) (w : World) : Calls Try.prog 25 #[.agg #[.int .i64 a, .int .i64 b, .int .i64 c, .int .i64 d, .int .i64 f]] w fun e w' => e = .returned (ceOut a b c d f) ∧ Below w.heap.size w w' := by
  rcases h1 : strikeB a b c d f with _ | _
  · have HB := Lib.hid h1
    go_enter Try.func25, Try.ntmps25
    go_wp2_with (go_at_call 45; refine (maGood_any _ _ _ _ _ _).mono ?_; rintro e w' ⟨rfl, hb⟩; obtain ⟨hc0, hf0, hz0⟩ := bl_at hb (k := w.heap.size) (by first | assumption | (simp; done) | (simp; omega)); obtain ⟨hc1, hf1, hz1⟩ := bl_at hb (k := w.heap.size + 1) (by first | assumption | (simp; done) | (simp; omega)))
    refine bodyPost_ret (v := .tuple #[.agg #[.int .i64 0, .int .i64 0, .int .i64 0, .int .i64 0, .int .i64 0], .bool false]) (by simp [results, Try.results25, go_sem, *]) rfl ⟨ret_val (ceOut_no HB.out).symm, by repeat (first | (with_reducible exact Below.refl _ _) | (with_reducible assumption) | (with_reducible refine bl_alloc ?_ _) | (with_reducible refine bl_drew ?_) | (with_reducible refine bl_drewN ?_ _) | ((with_reducible refine bl_set ?_ ?hb _); (case hb => first | (simp; done) | omega | (simp; omega))) | (with_reducible refine bl_trans ?_ (by assumption)))⟩
  · have HB := Lib.hid h1
    have hk1 : w.heap.size ≠ w.heap.size + 1 := (by omega); have hk2 : w.heap.size ≠ w.heap.size + 1 + 1 := (by omega); have hk3 : w.heap.size + 1 ≠ w.heap.size := (by omega); have hk4 : w.heap.size + 1 + 1 ≠ w.heap.size := (by omega)
    go_enter Try.func25, Try.ntmps25
    by_cases hbd : b ≤ d
    · go_wp2_with (first | (go_at_call 45; refine (maGood_any _ _ _ _ _ _).mono ?_; rintro e w' ⟨rfl, hb⟩; obtain ⟨hc0, hf0, hz0⟩ := bl_at hb (k := w.heap.size) (by first | assumption | (simp; done) | (simp; omega)); obtain ⟨hc1, hf1, hz1⟩ := bl_at hb (k := w.heap.size + 1) (by first | assumption | (simp; done) | (simp; omega))) | (go_at_call 49; refine (l1Least_any _ _ _).mono ?_; rw [show min b d = b by omega]; rintro e w' ⟨rfl, rfl⟩))
      refine bodyPost_ret (v := .tuple #[.agg #[.int .i64 a, .int .i64 b, .int .i64 c, .int .i64 b, .int .i64 f], .bool true]) (by simp [results, Try.results25, go_sem, *]) rfl ⟨ret_val (ceOut_yes HB.out (by omega)).symm, by repeat (first | (with_reducible exact Below.refl _ _) | (with_reducible assumption) | (with_reducible refine bl_alloc ?_ _) | (with_reducible refine bl_drew ?_) | (with_reducible refine bl_drewN ?_ _) | ((with_reducible refine bl_set ?_ ?hb _); (case hb => first | (simp; done) | omega | (simp; omega))) | (with_reducible refine bl_trans ?_ (by assumption)))⟩
    · go_wp2_with (first | (go_at_call 45; refine (maGood_any _ _ _ _ _ _).mono ?_; rintro e w' ⟨rfl, hb⟩; obtain ⟨hc0, hf0, hz0⟩ := bl_at hb (k := w.heap.size) (by first | assumption | (simp; done) | (simp; omega)); obtain ⟨hc1, hf1, hz1⟩ := bl_at hb (k := w.heap.size + 1) (by first | assumption | (simp; done) | (simp; omega))) | (go_at_call 49; refine (l1Least_any _ _ _).mono ?_; rw [show min b d = d by omega]; rintro e w' ⟨rfl, rfl⟩))
      refine bodyPost_ret (v := .tuple #[.agg #[.int .i64 a, .int .i64 d, .int .i64 c, .int .i64 d, .int .i64 f], .bool true]) (by simp [results, Try.results25, go_sem, *]) rfl ⟨ret_val (ceOut_yes HB.out (by omega)).symm, by repeat (first | (with_reducible exact Below.refl _ _) | (with_reducible assumption) | (with_reducible refine bl_alloc ?_ _) | (with_reducible refine bl_drew ?_) | (with_reducible refine bl_drewN ?_ _) | ((with_reducible refine bl_set ?_ ?hb _); (case hb => first | (simp; done) | omega | (simp; omega))) | (with_reducible refine bl_trans ?_ (by assumption)))⟩
set_option maxHeartbeats 400000 in
theorem implCentre_any (a b c d f : Int) (w : World) : Calls Try.prog 26 #[.agg #[.int .i64 a, .int .i64 b, .int .i64 c, .int .i64 d, .int .i64 f]] w fun e w' => e = .returned (ceOut a b c d f) ∧ Below w.heap.size w w' := by
  rcases h1 : strikeB a b c d f with _ | _
  · have HB := Lib.hid h1
    go_enter Try.func26, Try.ntmps26
    go_wp2_with (go_at_call 16; refine (implIsStrike_any _ _ _ _ _ _).mono ?_; rintro e w' ⟨rfl, hb⟩; obtain ⟨hc0, hf0, hz0⟩ := bl_at hb (k := w.heap.size) (by first | assumption | (simp; done) | (simp; omega)); obtain ⟨hc1, hf1, hz1⟩ := bl_at hb (k := w.heap.size + 1) (by first | assumption | (simp; done) | (simp; omega)))
    refine bodyPost_ret (v := .tuple #[.agg #[.int .i64 0, .int .i64 0, .int .i64 0, .int .i64 0, .int .i64 0], .bool false]) (by simp [results, Try.results26, go_sem, *]) rfl ⟨ret_val (ceOut_no HB.out).symm, by repeat (first | (with_reducible exact Below.refl _ _) | (with_reducible assumption) | (with_reducible refine bl_alloc ?_ _) | (with_reducible refine bl_drew ?_) | (with_reducible refine bl_drewN ?_ _) | ((with_reducible refine bl_set ?_ ?hb _); (case hb => first | (simp; done) | omega | (simp; omega))) | (with_reducible refine bl_trans ?_ (by assumption)))⟩
  · have HB := Lib.hid h1
    have hk1 : w.heap.size ≠ w.heap.size + 1 := (by omega); have hk2 : w.heap.size ≠ w.heap.size + 1 + 1 := (by omega); have hk3 : w.heap.size + 1 ≠ w.heap.size := (by omega); have hk4 : w.heap.size + 1 + 1 ≠ w.heap.size := (by omega)
    go_enter Try.func26, Try.ntmps26
    by_cases hbd : b ≤ d
    · go_wp2_with (first | (go_at_call 16; refine (implIsStrike_any _ _ _ _ _ _).mono ?_; rintro e w' ⟨rfl, hb⟩; obtain ⟨hc0, hf0, hz0⟩ := bl_at hb (k := w.heap.size) (by first | assumption | (simp; done) | (simp; omega)); obtain ⟨hc1, hf1, hz1⟩ := bl_at hb (k := w.heap.size + 1) (by first | assumption | (simp; done) | (simp; omega))) | (go_at_call 49; refine (l1Least_any _ _ _).mono ?_; rw [show min b d = b by omega]; rintro e w' ⟨rfl, rfl⟩))
      refine bodyPost_ret (v := .tuple #[.agg #[.int .i64 a, .int .i64 b, .int .i64 c, .int .i64 b, .int .i64 f], .bool true]) (by simp [results, Try.results26, go_sem, *]) rfl ⟨ret_val (ceOut_yes HB.out (by omega)).symm, by repeat (first | (with_reducible exact Below.refl _ _) | (with_reducible assumption) | (with_reducible refine bl_alloc ?_ _) | (with_reducible refine bl_drew ?_) | (with_reducible refine bl_drewN ?_ _) | ((with_reducible refine bl_set ?_ ?hb _); (case hb => first | (simp; done) | omega | (simp; omega))) | (with_reducible refine bl_trans ?_ (by assumption)))⟩
    · go_wp2_with (first | (go_at_call 16; refine (implIsStrike_any _ _ _ _ _ _).mono ?_; rintro e w' ⟨rfl, hb⟩; obtain ⟨hc0, hf0, hz0⟩ := bl_at hb (k := w.heap.size) (by first | assumption | (simp; done) | (simp; omega)); obtain ⟨hc1, hf1, hz1⟩ := bl_at hb (k := w.heap.size + 1) (by first | assumption | (simp; done) | (simp; omega))) | (go_at_call 49; refine (l1Least_any _ _ _).mono ?_; rw [show min b d = d by omega]; rintro e w' ⟨rfl, rfl⟩))
      refine bodyPost_ret (v := .tuple #[.agg #[.int .i64 a, .int .i64 d, .int .i64 c, .int .i64 d, .int .i64 f], .bool true]) (by simp [results, Try.results26, go_sem, *]) rfl ⟨ret_val (ceOut_yes HB.out (by omega)).symm, by repeat (first | (with_reducible exact Below.refl _ _) | (with_reducible assumption) | (with_reducible refine bl_alloc ?_ _) | (with_reducible refine bl_drew ?_) | (with_reducible refine bl_drewN ?_ _) | ((with_reducible refine bl_set ?_ ?hb _); (case hb => first | (simp; done) | omega | (simp; omega))) | (with_reducible refine bl_trans ?_ (by assumption)))⟩
theorem ceOut_form (a b c d f : Int) : ∃ x0 x1 x2 x3 x4 : Int, ∃ v : Bool, ceOut a b c d f = .tuple #[.agg #[.int .i64 x0, .int .i64 x1, .int .i64 x2, .int .i64 x3, .int .i64 x4], .bool v] := ⟨_, _, _, _, _, _, rfl⟩
set_option maxHeartbeats 1000000 in
theorem lawCentreStrike (a b c d f : Int) (w : World) (_ : I64 a) (_ : I64 b) (_ : I64 c) (_ : I64 d) (_ : I64 f) : Calls Try.prog 8 #[.agg #[.int .i64 a, .int .i64 b, .int .i64 c, .int .i64 d, .int .i64 f]] w fun e w' => e = .returned (.bool (true)) ∧ Below w.heap.size w w' := by
  obtain ⟨x0, x1, x2, x3, x4, v, hv⟩ := ceOut_form a b c d f
  have H1 := Lib.hid (fun W => specCentre_any a b c d f W)
  have H2 := Lib.hid (fun W => implCentre_any a b c d f W)
  rw [hv] at H1 H2
  clear hv
  go_enter Try.func8, Try.ntmps8
  go_wp2_with fail; refine (toStrike_any _ _ _ _ _ _).mono ?_; rintro e w1 ⟨rfl, hb⟩
  obtain ⟨hc0, hf0, hz0⟩ := bl_at hb (k := w.heap.size) (by first | assumption | (simp; done) | (simp; omega))
  go_wp2_with fail; refine (H1.out _).mono ?_; rintro e w2 ⟨rfl, hb⟩
  obtain ⟨hc0, hf0, hz0⟩ := bl_at hb (k := w.heap.size) (by first | assumption | (simp; done) | (simp; omega))
  go_wp2_with fail; refine (toStrike_any _ _ _ _ _ _).mono ?_; rintro e w3 ⟨rfl, hb⟩
  obtain ⟨hc0, hf0, hz0⟩ := bl_at hb (k := w.heap.size) (by first | assumption | (simp; done) | (simp; omega))
  obtain ⟨hc1, hf1, hz1⟩ := bl_at hb (k := w2.heap.size) (by first | assumption | (simp; done) | (simp; omega))
  go_wp2_with fail; refine (H2.out _).mono ?_; rintro e w4 ⟨rfl, hb⟩
  obtain ⟨hc1, hf1, hz1⟩ := bl_at hb (k := w2.heap.size) (by first | assumption | (simp; done) | (simp; omega))
  go_wp2_with fail; refine (eqStrike_same _ _ _ _ _ _).mono ?_; rintro e w5 ⟨rfl, hb⟩
  go_wp2
  go_ret
  exact ⟨rfl, by repeat (first | (with_reducible exact Below.refl _ _) | (with_reducible assumption) | (with_reducible refine bl_alloc ?_ _) | (with_reducible refine bl_drew ?_) | (with_reducible refine bl_drewN ?_ _) | ((with_reducible refine bl_set ?_ ?hb _); (case hb => first | (simp; done) | omega | (simp; omega))) | (with_reducible refine bl_trans ?_ (by assumption)))⟩

/-! ### FileStrike -/
set_option maxHeartbeats 400000 in
theorem maOf_any (g off n c : Nat) (x0 x1 x2 x3 x4 : Int) (w : World) (hg : g < w.heap.size) (hn : 5 ≤ n) (h0 : w.cell? ⟨g, off, none⟩ = some (.int .i64 x0)) (h1 : w.cell? ⟨g, off + 1, none⟩ = some (.int .i64 x1)) (h2 : w.cell? ⟨g, off + 2, none⟩ = some (.int .i64 x2)) (h3 : w.cell? ⟨g, off + 3, none⟩ = some (.int .i64 x3)) (h4 : w.cell? ⟨g, off + 4, none⟩ = some (.int .i64 x4)) :
    Calls Try.prog 53 #[.slice (some ⟨g, off, none⟩) n c] w fun e w' => e = .returned (.agg #[.int .i64 x0, .int .i64 x1, .int .i64 x2, .int .i64 x3, .int .i64 x4]) ∧ Below w.heap.size w w' := by
  have hne : g ≠ w.heap.size := by omega
  have hne' : w.heap.size ≠ g := by omega
  have i0 : (0 : Int) < (n : Int) := by omega
  have j0 : 0 < n := by omega
  have i1 : (1 : Int) < (n : Int) := by omega
  have i2 : (2 : Int) < (n : Int) := by omega
  have i3 : (3 : Int) < (n : Int) := by omega
  have i4 : (4 : Int) < (n : Int) := by omega
  go_enter Try.func53, Try.ntmps53
  go_wp2_with fail
  go_region_held3 (fun w' => w'.cell? ⟨g, off, none⟩ = some (.int .i64 x0) ∧ w'.cell? ⟨g, off + 1, none⟩ = some (.int .i64 x1) ∧ w'.cell? ⟨g, off + 2, none⟩ = some (.int .i64 x2) ∧ w'.cell? ⟨g, off + 3, none⟩ = some (.int .i64 x3) ∧ w'.cell? ⟨g, off + 4, none⟩ = some (.int .i64 x4)) (go_keep) (fail)
  go_wp2
  exact bodyPost_ret (v := .agg #[.int .i64 x0, .int .i64 x1, .int .i64 x2, .int .i64 x3, .int .i64 x4]) (by simp [results, Try.results53, go_sem]) rfl ⟨rfl, by repeat (first | (with_reducible exact Below.refl _ _) | (with_reducible assumption) | (with_reducible refine bl_alloc ?_ _) | (with_reducible refine bl_drew ?_) | (with_reducible refine bl_drewN ?_ _) | ((with_reducible refine bl_set ?_ ?hb _); (case hb => first | (simp; done) | omega | (simp; omega))) | (with_reducible refine bl_trans ?_ (by assumption)))⟩
set_option maxHeartbeats 400000 in
theorem strikeOf_any (g off n c : Nat) (x0 x1 x2 x3 x4 : Int) (w : World) (hg : g < w.heap.size) (hn : 5 ≤ n) (h0 : w.cell? ⟨g, off, none⟩ = some (.int .i64 x0)) (h1 : w.cell? ⟨g, off + 1, none⟩ = some (.int .i64 x1)) (h2 : w.cell? ⟨g, off + 2, none⟩ = some (.int .i64 x2)) (h3 : w.cell? ⟨g, off + 3, none⟩ = some (.int .i64 x3)) (h4 : w.cell? ⟨g, off + 4, none⟩ = some (.int .i64 x4)) :
    Calls Try.prog 54 #[.slice (some ⟨g, off, none⟩) n c] w fun e w' => e = .returned (.agg #[.int .i64 x0, .int .i64 x1, .int .i64 x2, .int .i64 x3, .int .i64 x4]) ∧ Below w.heap.size w w' := by
  have hne : g ≠ w.heap.size := by omega
  have hne' : w.heap.size ≠ g := by omega
  have i0 : (0 : Int) < (n : Int) := by omega
  have j0 : 0 < n := by omega
  have i1 : (1 : Int) < (n : Int) := by omega
  have i2 : (2 : Int) < (n : Int) := by omega
  have i3 : (3 : Int) < (n : Int) := by omega
  have i4 : (4 : Int) < (n : Int) := by omega
  go_enter Try.func54, Try.ntmps54
  go_wp2_with fail
  go_region_held3 (fun w' => w'.cell? ⟨g, off, none⟩ = some (.int .i64 x0) ∧ w'.cell? ⟨g, off + 1, none⟩ = some (.int .i64 x1) ∧ w'.cell? ⟨g, off + 2, none⟩ = some (.int .i64 x2) ∧ w'.cell? ⟨g, off + 3, none⟩ = some (.int .i64 x3) ∧ w'.cell? ⟨g, off + 4, none⟩ = some (.int .i64 x4)) (go_keep) (fail)
  go_wp2
  exact bodyPost_ret (v := .agg #[.int .i64 x0, .int .i64 x1, .int .i64 x2, .int .i64 x3, .int .i64 x4]) (by simp [results, Try.results54, go_sem]) rfl ⟨rfl, by repeat (first | (with_reducible exact Below.refl _ _) | (with_reducible assumption) | (with_reducible refine bl_alloc ?_ _) | (with_reducible refine bl_drew ?_) | (with_reducible refine bl_drewN ?_ _) | ((with_reducible refine bl_set ?_ ?hb _); (case hb => first | (simp; done) | omega | (simp; omega))) | (with_reducible refine bl_trans ?_ (by assumption)))⟩
end Go.Proofs.Ytbklljbjggoiaaa
