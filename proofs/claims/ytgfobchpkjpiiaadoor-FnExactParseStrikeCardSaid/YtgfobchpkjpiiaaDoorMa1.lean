/-
  Contracts of the functions on strikes: parts, validity, conversion.
-/
import Derived.Test.YtgfobchpkjpiiaaDoorNum
import Derived.Test.YtgfobchpkjpiiaaDoorSlc
import Derived.Deep.RegionHeld3
import Derived.Deep.DeepCutAuto
import Derived.Deep.DrawnRows
namespace Go.Proofs.YtgfobchpkjpiiaaDoor
open Go.RowKit
set_option linter.unusedVariables false

def strikeB (d l f r o : Int) : Bool := allIn [d, l, f, r, o] 1 999
theorem strike_iff {d l f r o : Int} : strikeB d l f r o = true ↔ (1 ≤ d ∧ d ≤ 999) ∧ (1 ≤ l ∧ l ≤ 999) ∧ (1 ≤ f ∧ f ≤ 999) ∧ (1 ≤ r ∧ r ≤ 999) ∧ (1 ≤ o ∧ o ≤ 999) := by
  simp [strikeB, allIn, inB]
theorem rd5 (w : World) (a b c d e : Int) (t : TypeId) (g : Nat) (hg : g = w.heap.size) : Rd cI 1 (w.alloc (.cells #[.int .i64 a, .int .i64 b, .int .i64 c, .int .i64 d, .int .i64 e] t)) (g + 1) (some ⟨g, 0, none⟩) 5 [a, b, c, d, e] := by
  subst hg
  refine ⟨rfl, fun _ => ⟨_, 0, rfl, by omega, fun i x hx j hj => ?_⟩⟩
  obtain rfl : j = 0 := by omega
  match i, hx with
  | 0, hx => simp at hx; subst hx; simp [cI]
  | 1, hx => simp at hx; subst hx; simp [cI]
  | 2, hx => simp at hx; subst hx; simp [cI]
  | 3, hx => simp at hx; subst hx; simp [cI]
  | 4, hx => simp at hx; subst hx; simp [cI]
set_option maxHeartbeats 400000 in
theorem maParts_any (a b c d f : Int) (w : World) :
    Calls Tryd.prog 73 #[.agg #[.int .i64 a, .int .i64 b, .int .i64 c, .int .i64 d, .int .i64 f]] w fun e w' => e = .returned (.slice (some ⟨w.heap.size + 1, 0, none⟩) 5 5) ∧ (w.alloc (.cells #[.int .i64 a, .int .i64 b, .int .i64 c, .int .i64 d, .int .i64 f] 32)).alloc (.cells #[.int .i64 a, .int .i64 b, .int .i64 c, .int .i64 d, .int .i64 f] 3) = w' := by
  go_enter Tryd.func73, Tryd.ntmps73
  go_wp2
  go_ret
  exact ⟨rfl, rfl⟩
set_option maxHeartbeats 400000 in
theorem parts_any (a b c d f : Int) (w : World) :
    Calls Tryd.prog 44 #[.agg #[.int .i64 a, .int .i64 b, .int .i64 c, .int .i64 d, .int .i64 f]] w fun e w' => e = .returned (.slice (some ⟨w.heap.size + 1, 0, none⟩) 5 5) ∧ (w.alloc (.cells #[.int .i64 a, .int .i64 b, .int .i64 c, .int .i64 d, .int .i64 f] 32)).alloc (.cells #[.int .i64 a, .int .i64 b, .int .i64 c, .int .i64 d, .int .i64 f] 3) = w' := by
  go_enter Tryd.func44, Tryd.ntmps44
  go_wp2
  go_ret
  exact ⟨rfl, rfl⟩
set_option maxHeartbeats 400000 in
theorem maGood_any (a b c d f : Int) (w : World) : Calls Tryd.prog 40 #[.agg #[.int .i64 a, .int .i64 b, .int .i64 c, .int .i64 d, .int .i64 f]] w fun e w' => e = .returned (.bool (strikeB a b c d f)) ∧ Below w.heap.size w w' := by
  go_enter Tryd.func40, Tryd.ntmps40
  go_wp2_with (first | (go_at_call 73; refine (maParts_any _ _ _ _ _ _).mono ?_; rintro e w' ⟨rfl, rfl⟩) | (go_at_call 70; refine (l1All_any _ _ _ _ [a, b, c, d, f] _ _ _ (rd5 _ a b c d f _ _ (by simp)) (by simp [maxLen])).mono ?_; rintro e w' ⟨rfl, rfl⟩))
  go_ret
  exact ⟨rfl, by repeat (first | (with_reducible exact Below.refl _ _) | (with_reducible assumption) | (with_reducible refine bl_alloc ?_ _) | (with_reducible refine bl_drew ?_) | (with_reducible refine bl_drewN ?_ _) | ((with_reducible refine bl_set ?_ ?hb _); (case hb => first | (simp; done) | omega | (simp; omega))) | (with_reducible refine bl_trans ?_ (by assumption)))⟩
set_option maxHeartbeats 400000 in
theorem implIsStrike_any (a b c d f : Int) (w : World) : Calls Tryd.prog 42 #[.agg #[.int .i64 a, .int .i64 b, .int .i64 c, .int .i64 d, .int .i64 f]] w fun e w' => e = .returned (.bool (strikeB a b c d f)) ∧ Below w.heap.size w w' := by
  have HE : Hid (∀ k x, [a, b, c, d, f][k]? = some x → inB x 1 999 = false → strikeB a b c d f = false) := fun k x h h' => all_no h h'
  have HF : Hid (([a, b, c, d, f].take 5).all (inB · 1 999) = true → strikeB a b c d f = true) := fun h => all_end (by simp) h
  go_enter Tryd.func42, Tryd.ntmps42
  go_wp2_with (go_at_call 44; refine (parts_any _ _ _ _ _ _).mono ?_; rintro e w' ⟨rfl, rfl⟩)
  obtain ⟨W, hW⟩ : ∃ W, W = ((w.alloc (.cells #[.int .i64 a, .int .i64 b, .int .i64 c, .int .i64 d, .int .i64 f] 32)).alloc (.cells #[.int .i64 a, .int .i64 b, .int .i64 c, .int .i64 d, .int .i64 f] 32)).alloc (.cells #[.int .i64 a, .int .i64 b, .int .i64 c, .int .i64 d, .int .i64 f] 3) := ⟨_, rfl⟩
  have hr : Rd cI 1 W (w.heap.size + 1 + 1 + 1) (some ⟨w.heap.size + 1 + 1, 0, none⟩) 5 [a, b, c, d, f] := by rw [hW]; exact rd5 _ a b c d f _ _ (by simp)
  have hbW : Below w.heap.size w W := by rw [hW]; exact by repeat (first | (with_reducible exact Below.refl _ _) | (with_reducible assumption) | (with_reducible refine bl_alloc ?_ _) | (with_reducible refine bl_drew ?_) | (with_reducible refine bl_drewN ?_ _) | ((with_reducible refine bl_set ?_ ?hb _); (case hb => first | (simp; done) | omega | (simp; omega))) | (with_reducible refine bl_trans ?_ (by assumption)))
  rw [← hW]
  clear hW
  go_loop [4, 8] (fun _ i => ∃ k : Nat, k ≤ 5 ∧ i = .int .i64 k ∧ Hid (([a, b, c, d, f].take k).all (inB · 1 999) = true)) (fun _ i => 5 - (intOf i).toNat)
  case atStart => exact ⟨0, by omega, rfl, rfl⟩
  case round =>
    obtain ⟨k, hk, rfl, HA⟩ := hrel
    by_cases hlt : k < 5
    · obtain ⟨bb, off, x, hA, _, hx, hc⟩ := hr.atI hlt
      obtain ⟨rfl, rfl⟩ : w.heap.size + 1 + 1 = bb ∧ 0 = off := by simpa using hA
      rw [Nat.zero_add] at hc
      have HX := Lib.hid hx
      clear hx hA
      rcases hin : inB x 1 999 with _ | _
      · have HI := Lib.hid hin
        go_wp2_with (go_at_call 74; refine (within_any _ _ _ _).mono ?_; rintro e w' ⟨rfl, rfl⟩)
        go_ret
        exact ⟨ret_bool (HE.out _ _ HX.out HI.out).symm, hbW⟩
      · have HI := Lib.hid hin
        go_wp2_with (go_at_call 74; refine (within_any _ _ _ _).mono ?_; rintro e w' ⟨rfl, rfl⟩)
        go_round
        case rel => exact ⟨k + 1, by omega, by go_num, all_snoc HX.out HA.out HI.out⟩
        case measure => simp [intOf]; omega
    · obtain rfl : k = 5 := by omega
      go_wp2
      go_ret
      exact ⟨ret_bool (HF.out HA.out).symm, hbW⟩
set_option maxHeartbeats 400000 in
theorem toStrike_any (a b c d f : Int) (w : World) : Calls Tryd.prog 14 #[.agg #[.int .i64 a, .int .i64 b, .int .i64 c, .int .i64 d, .int .i64 f]] w fun e w' => e = .returned (.agg #[.int .i64 a, .int .i64 b, .int .i64 c, .int .i64 d, .int .i64 f]) ∧ Below w.heap.size w w' := by
  go_enter Tryd.func14, Tryd.ntmps14
  go_wp2
  exact bodyPost_ret (v := .agg #[.int .i64 a, .int .i64 b, .int .i64 c, .int .i64 d, .int .i64 f]) (by simp [results, Tryd.results14, go_sem]) rfl ⟨rfl, by repeat (first | (with_reducible exact Below.refl _ _) | (with_reducible assumption) | (with_reducible refine bl_alloc ?_ _) | (with_reducible refine bl_drew ?_) | (with_reducible refine bl_drewN ?_ _) | ((with_reducible refine bl_set ?_ ?hb _); (case hb => first | (simp; done) | omega | (simp; omega))) | (with_reducible refine bl_trans ?_ (by assumption)))⟩
set_option maxHeartbeats 400000 in
theorem eqStrike_same (a b c d f : Int) (w : World) : Calls Tryd.prog 35 #[.agg #[.int .i64 a, .int .i64 b, .int .i64 c, .int .i64 d, .int .i64 f], .agg #[.int .i64 a, .int .i64 b, .int .i64 c, .int .i64 d, .int .i64 f]] w fun e w' => e = .returned (.bool (true)) ∧ Below w.heap.size w w' := by
  go_enter Tryd.func35, Tryd.ntmps35
  go_wp2
  go_ret
  exact ⟨rfl, by repeat (first | (with_reducible exact Below.refl _ _) | (with_reducible assumption) | (with_reducible refine bl_alloc ?_ _) | (with_reducible refine bl_drew ?_) | (with_reducible refine bl_drewN ?_ _) | ((with_reducible refine bl_set ?_ ?hb _); (case hb => first | (simp; done) | omega | (simp; omega))) | (with_reducible refine bl_trans ?_ (by assumption)))⟩
end Go.Proofs.YtgfobchpkjpiiaaDoor
