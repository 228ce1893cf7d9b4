/-
  Sorts and fonts: contracts; the laws' walks of IsSort and IsFont.
-/
import Derived.Test.YtfehdpaoboiodaaSrt
import Derived.Deep.RegionWith
namespace Go.Proofs.Ytfehdpaoboiodaa
open Go.RowKit
set_option linter.unusedVariables false
attribute [local go_sem ↓] Go.wp_at_zero Go.wp_at_succ

def sortB (x : Srt) : Bool := lettersB x.code 1 3 && inB x.set 1 54
set_option maxHeartbeats 400000 in
theorem tySort_any (x : Srt) (w : World) (hs : x.code.size ≤ maxLen) : Calls Try.prog 43 #[.agg #[.string x.code, .int .i64 x.set]] w fun e w' => e = .returned (.bool (sortB x)) ∧ Below w.heap.size w w' := by
  go_enter Try.func43, Try.ntmps43
  go_wp2_with (first | (go_at_call 67; refine (tyLetters_any _ _ _ hs).mono ?_; rintro e w' ⟨rfl, rfl⟩) | (go_at_call 51; refine (l1In_any _ _ _ _).mono ?_; rintro e w' ⟨rfl, rfl⟩))
  all_goals go_ret
  all_goals exact ⟨ret_bool (by simp [sortB, *]), by repeat (first | (with_reducible exact Below.refl _ _) | (with_reducible assumption) | (with_reducible refine bl_alloc ?_ _) | (with_reducible refine bl_drew ?_) | (with_reducible refine bl_drewN ?_ _) | ((with_reducible refine bl_set ?_ ?hb _); (case hb => first | (simp; done) | omega | (simp; omega))) | (with_reducible refine bl_trans ?_ (by assumption)))⟩
set_option maxHeartbeats 400000 in
theorem implIsSort_any (x : Srt) (w : World) (hs : x.code.size ≤ maxLen) : Calls Try.prog 16 #[.agg #[.string x.code, .int .i64 x.set]] w fun e w' => e = .returned (.bool (sortB x)) ∧ Below w.heap.size w w' := by
  go_enter Try.func16, Try.ntmps16
  go_wp2_with (first | (go_at_call 44; refine (isCode_any _ _ hs).mono ?_; rintro e w' ⟨rfl, rfl⟩) | (go_at_call 45; refine (within_any _ _ _ _).mono ?_; rintro e w' ⟨rfl, rfl⟩))
  all_goals go_ret
  all_goals exact ⟨ret_bool (by simp [sortB, *]), by repeat (first | (with_reducible exact Below.refl _ _) | (with_reducible assumption) | (with_reducible refine bl_alloc ?_ _) | (with_reducible refine bl_drew ?_) | (with_reducible refine bl_drewN ?_ _) | ((with_reducible refine bl_set ?_ ?hb _); (case hb => first | (simp; done) | omega | (simp; omega))) | (with_reducible refine bl_trans ?_ (by assumption)))⟩
theorem specIsSort_any (x : Srt) (w : World) (hs : x.code.size ≤ maxLen) : Calls Try.prog 14 #[.agg #[.string x.code, .int .i64 x.set]] w fun e w' => e = .returned (.bool (sortB x)) ∧ Below w.heap.size w w' := by
  go_enter Try.func14, Try.ntmps14
  go_wp2_with (go_at_call 43; refine (tySort_any _ _ hs).mono ?_; rintro e w' ⟨rfl, hb⟩; obtain ⟨hc0, hf0, hz0⟩ := bl_at hb (k := w.heap.size) (by first | assumption | (simp; done) | (simp; omega)))
  go_ret
  exact ⟨rfl, by repeat (first | (with_reducible exact Below.refl _ _) | (with_reducible assumption) | (with_reducible refine bl_alloc ?_ _) | (with_reducible refine bl_drew ?_) | (with_reducible refine bl_drewN ?_ _) | ((with_reducible refine bl_set ?_ ?hb _); (case hb => first | (simp; done) | omega | (simp; omega))) | (with_reducible refine bl_trans ?_ (by assumption)))⟩
set_option maxHeartbeats 400000 in
theorem lawIsSort (s : ByteArray) (v : Int) (w : World) (hs : s.size ≤ maxLen) (_ : I64 v) : Calls Try.prog 3 #[.agg #[.string s, .int .i64 v]] w fun e w' => e = .returned (.bool (true)) ∧ Below w.heap.size w w' := by
  have HZ := Lib.hid (fun W => szSort_any ⟨s, v⟩ 1048576 W hs (by omega) (by omega))
  have HT := Lib.hid (fun W => toSrt_any ⟨s, v⟩ W)
  have H1 := Lib.hid (fun W => specIsSort_any ⟨s, v⟩ W hs)
  have H2 := Lib.hid (fun W => implIsSort_any ⟨s, v⟩ W hs)
  by_cases h : (1048576 : Int) - s.size < 0
  · have E := Lib.hid (szV_neg h)
    go_enter Try.func3, Try.ntmps3
    go_wp2_with (go_at_call 13; refine (HZ.out _).mono ?_; rw [E.out]; rintro e w' ⟨rfl, hb⟩)
    go_ret
    exact ⟨rfl, by repeat (first | (with_reducible exact Below.refl _ _) | (with_reducible assumption) | (with_reducible refine bl_alloc ?_ _) | (with_reducible refine bl_drew ?_) | (with_reducible refine bl_drewN ?_ _) | ((with_reducible refine bl_set ?_ ?hb _); (case hb => first | (simp; done) | omega | (simp; omega))) | (with_reducible refine bl_trans ?_ (by assumption)))⟩
  · have E := Lib.hid (szV_pos h)
    go_enter Try.func3, Try.ntmps3
    go_wp2_with (first | (go_at_call 13; refine (HZ.out _).mono ?_; rw [E.out]; rintro e w' ⟨rfl, hb⟩; obtain ⟨hc0, hf0, hz0⟩ := bl_at hb (k := w.heap.size) (by first | assumption | (simp; done) | (simp; omega))) | (go_at_call 15; refine (HT.out _).mono ?_; rintro e w' ⟨rfl, hb⟩; obtain ⟨hc0, hf0, hz0⟩ := bl_at hb (k := w.heap.size) (by first | assumption | (simp; done) | (simp; omega))) | (go_at_call 14; refine (H1.out _).mono ?_; rintro e w' ⟨rfl, hb⟩; obtain ⟨hc0, hf0, hz0⟩ := bl_at hb (k := w.heap.size) (by first | assumption | (simp; done) | (simp; omega))) | (go_at_call 16; refine (H2.out _).mono ?_; rintro e w' ⟨rfl, hb⟩; obtain ⟨hc0, hf0, hz0⟩ := bl_at hb (k := w.heap.size) (by first | assumption | (simp; done) | (simp; omega))))
    go_ret
    exact ⟨rfl, by repeat (first | (with_reducible exact Below.refl _ _) | (with_reducible assumption) | (with_reducible refine bl_alloc ?_ _) | (with_reducible refine bl_drew ?_) | (with_reducible refine bl_drewN ?_ _) | ((with_reducible refine bl_set ?_ ?hb _); (case hb => first | (simp; done) | omega | (simp; omega))) | (with_reducible refine bl_trans ?_ (by assumption)))⟩
end Go.Proofs.Ytfehdpaoboiodaa
