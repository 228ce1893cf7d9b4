/-
  Boxes: contracts; the law's walk of IsBox.
-/
import Derived.Test.YtjeehkiebalbmaaBox
import Derived.Deep.RegionWith
namespace Go.Proofs.Ytjeehkiebalbmaa
open Go.RowKit
set_option linter.unusedVariables false
attribute [local go_sem ↓] Go.wp_at_zero Go.wp_at_succ

def boxB (x : Box) : Bool := lettersB x.code 1 3 && (inB x.row 0 9 && (inB x.col 0 9 && inB x.cnt 0 9999))
theorem isPlace_any (x : Int) (w : World) : Calls Try.prog 34 #[.int .i64 x] w fun e w' => e = .returned (.bool (inB x 0 9)) ∧ w' = w := by
  go_enter Try.func34, Try.ntmps34
  go_wp2_with (go_at_call 35; refine (within_any _ _ _ _).mono ?_; rintro e w' ⟨rfl, rfl⟩)
  go_ret
  exact ⟨rfl, rfl⟩
set_option maxHeartbeats 400000 in
theorem caBox_any (x : Box) (w : World) (hs : x.code.size ≤ maxLen) : Calls Try.prog 32 #[.agg #[.string x.code, .int .i64 x.row, .int .i64 x.col, .int .i64 x.cnt]] w fun e w' => e = .returned (.bool (boxB x)) ∧ Below w.heap.size w w' := by
  go_enter Try.func32, Try.ntmps32
  go_wp2_with (first | (go_at_call 51; refine (tyLetters_any _ _ _ hs).mono ?_; rintro e w' ⟨rfl, rfl⟩) | (go_at_call 42; refine (l1In_any _ _ _ _).mono ?_; rintro e w' ⟨rfl, rfl⟩) | (go_at_call 42; refine (l1In_any _ _ _ _).mono ?_; rintro e w' ⟨rfl, rfl⟩))
  all_goals go_ret
  all_goals exact ⟨ret_bool (by simp [boxB, *]), by repeat (first | (with_reducible exact Below.refl _ _) | (with_reducible assumption) | (with_reducible refine bl_alloc ?_ _) | (with_reducible refine bl_drew ?_) | (with_reducible refine bl_drewN ?_ _) | ((with_reducible refine bl_set ?_ ?hb _); (case hb => first | (simp; done) | omega | (simp; omega))) | (with_reducible refine bl_trans ?_ (by assumption)))⟩
set_option maxHeartbeats 400000 in
theorem implIsBox_any (x : Box) (w : World) (hs : x.code.size ≤ maxLen) : Calls Try.prog 13 #[.agg #[.string x.code, .int .i64 x.row, .int .i64 x.col, .int .i64 x.cnt]] w fun e w' => e = .returned (.bool (boxB x)) ∧ Below w.heap.size w w' := by
  go_enter Try.func13, Try.ntmps13
  go_wp2_with (first | (go_at_call 33; refine (isCode_any _ _ hs).mono ?_; rintro e w' ⟨rfl, rfl⟩) | (go_at_call 35; refine (within_any _ _ _ _).mono ?_; rintro e w' ⟨rfl, rfl⟩) | (go_at_call 34; refine (isPlace_any _ _).mono ?_; rintro e w' ⟨rfl, rfl⟩))
  all_goals go_ret
  all_goals exact ⟨ret_bool (by simp [boxB, *]), by repeat (first | (with_reducible exact Below.refl _ _) | (with_reducible assumption) | (with_reducible refine bl_alloc ?_ _) | (with_reducible refine bl_drew ?_) | (with_reducible refine bl_drewN ?_ _) | ((with_reducible refine bl_set ?_ ?hb _); (case hb => first | (simp; done) | omega | (simp; omega))) | (with_reducible refine bl_trans ?_ (by assumption)))⟩
theorem specIsBox_any (x : Box) (w : World) (hs : x.code.size ≤ maxLen) : Calls Try.prog 11 #[.agg #[.string x.code, .int .i64 x.row, .int .i64 x.col, .int .i64 x.cnt]] w fun e w' => e = .returned (.bool (boxB x)) ∧ Below w.heap.size w w' := by
  go_enter Try.func11, Try.ntmps11
  go_wp2_with (go_at_call 32; refine (caBox_any _ _ hs).mono ?_; rintro e w' ⟨rfl, hb⟩; obtain ⟨hc0, hf0, hz0⟩ := bl_at hb (k := w.heap.size) (by first | assumption | (simp; done) | (simp; omega)))
  go_ret
  exact ⟨rfl, by repeat (first | (with_reducible exact Below.refl _ _) | (with_reducible assumption) | (with_reducible refine bl_alloc ?_ _) | (with_reducible refine bl_drew ?_) | (with_reducible refine bl_drewN ?_ _) | ((with_reducible refine bl_set ?_ ?hb _); (case hb => first | (simp; done) | omega | (simp; omega))) | (with_reducible refine bl_trans ?_ (by assumption)))⟩
set_option maxHeartbeats 400000 in
theorem lawIsBox (s : ByteArray) (r c m : Int) (w : World) (hs : s.size ≤ maxLen) (_ : I64 r) (_ : I64 c) (_ : I64 m) : Calls Try.prog 3 #[.agg #[.string s, .int .i64 r, .int .i64 c, .int .i64 m]] w fun e w' => e = .returned (.bool (true)) ∧ Below w.heap.size w w' := by
  have HZ := Lib.hid (fun W => szBox_any ⟨s, r, c, m⟩ 1048576 W hs (by omega) (by omega))
  have HT := Lib.hid (fun W => toBox_any ⟨s, r, c, m⟩ W)
  have H1 := Lib.hid (fun W => specIsBox_any ⟨s, r, c, m⟩ W hs)
  have H2 := Lib.hid (fun W => implIsBox_any ⟨s, r, c, m⟩ W hs)
  by_cases h : (1048576 : Int) - s.size < 0
  · have E := Lib.hid (szV_neg h)
    go_enter Try.func3, Try.ntmps3
    go_wp2_with (go_at_call 10; refine (HZ.out _).mono ?_; rw [E.out]; rintro e w' ⟨rfl, hb⟩)
    go_ret
    exact ⟨rfl, by repeat (first | (with_reducible exact Below.refl _ _) | (with_reducible assumption) | (with_reducible refine bl_alloc ?_ _) | (with_reducible refine bl_drew ?_) | (with_reducible refine bl_drewN ?_ _) | ((with_reducible refine bl_set ?_ ?hb _); (case hb => first | (simp; done) | omega | (simp; omega))) | (with_reducible refine bl_trans ?_ (by assumption)))⟩
  · have E := Lib.hid (szV_pos h)
    go_enter Try.func3, Try.ntmps3
    go_wp2_with (first | (go_at_call 10; refine (HZ.out _).mono ?_; rw [E.out]; rintro e w' ⟨rfl, hb⟩; obtain ⟨hc0, hf0, hz0⟩ := bl_at hb (k := w.heap.size) (by first | assumption | (simp; done) | (simp; omega))) | (go_at_call 12; refine (HT.out _).mono ?_; rintro e w' ⟨rfl, hb⟩; obtain ⟨hc0, hf0, hz0⟩ := bl_at hb (k := w.heap.size) (by first | assumption | (simp; done) | (simp; omega))) | (go_at_call 11; refine (H1.out _).mono ?_; rintro e w' ⟨rfl, hb⟩; obtain ⟨hc0, hf0, hz0⟩ := bl_at hb (k := w.heap.size) (by first | assumption | (simp; done) | (simp; omega))) | (go_at_call 13; refine (H2.out _).mono ?_; rintro e w' ⟨rfl, hb⟩; obtain ⟨hc0, hf0, hz0⟩ := bl_at hb (k := w.heap.size) (by first | assumption | (simp; done) | (simp; omega))))
    go_ret
    exact ⟨rfl, by repeat (first | (with_reducible exact Below.refl _ _) | (with_reducible assumption) | (with_reducible refine bl_alloc ?_ _) | (with_reducible refine bl_drew ?_) | (with_reducible refine bl_drewN ?_ _) | ((with_reducible refine bl_set ?_ ?hb _); (case hb => first | (simp; done) | omega | (simp; omega))) | (with_reducible refine bl_trans ?_ (by assumption)))⟩
end Go.Proofs.Ytjeehkiebalbmaa
