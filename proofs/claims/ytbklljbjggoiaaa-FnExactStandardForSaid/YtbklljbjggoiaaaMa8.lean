/-
  Lists of strikes: contracts of their validity.
-/
import Derived.Test.YtbklljbjggoiaaaStk
import Derived.Test.YtbklljbjggoiaaaMa6
namespace Go.Proofs.Ytbklljbjggoiaaa
open Go.RowKit
set_option linter.unusedVariables false
attribute [local go_sem ↓] Go.wp_at_zero Go.wp_at_succ

def goodS (x : Stk) : Bool := strikeB x.a x.b x.c x.d x.f
def listB (xs : List Stk) : Bool := xs.all goodS && decide (xs.length ≤ 30)
theorem list_no {xs : List Stk} {k : Nat} {x : Stk} (h : xs[k]? = some x) (hx : goodS x = false) : listB xs = false := by
  unfold listB
  rw [all_no h hx, Bool.false_and]
theorem list_end {xs : List Stk} {k : Nat} (hk : xs.length ≤ k) (h : (xs.take k).all goodS = true) : listB xs = decide (xs.length ≤ 30) := by
  unfold listB
  rw [all_end hk h, Bool.true_and]
theorem list_each {xs : List Stk} (h : listB xs = true) {k : Nat} {x : Stk} (hx : xs[k]? = some x) : goodS x = true := by
  unfold listB at h
  rw [Bool.and_eq_true] at h
  exact List.all_eq_true.1 h.1 x (List.mem_of_getElem? hx)
theorem list_len {xs : List Stk} (h : listB xs = true) : xs.length ≤ 30 := by
  unfold listB at h
  rw [Bool.and_eq_true] at h
  simpa using h.2
set_option maxHeartbeats 1000000 in
theorem maList_any (A : Option Addr) (n c B : Nat) (xs : List Stk) (w : World) (hr : Rd cStk 5 w B A n xs) (hB : B ≤ w.heap.size) (hn : n ≤ 1048576) :
    Calls Try.prog 56 #[.slice A n c] w fun e w' => e = .returned (.bool (listB xs)) ∧ Below w.heap.size w w' := by
  have hl := hr.1
  go_enter Try.func56, Try.ntmps56
  go_wp2
  go_loopw [4, 7] (fun _ i wr => ∃ k : Nat, k ≤ n ∧ i = .int .i64 k ∧ Below w.heap.size w wr ∧ Hid ((xs.take k).all goodS = true)) (fun _ i _ => n - (intOf i).toNat)
  case atStart => exact ⟨0, Nat.zero_le _, rfl, Below.refl _ _, rfl⟩
  case round =>
    obtain ⟨k, hk, rfl, hb, HA⟩ := hrel
    by_cases hlt : k < n
    · obtain ⟨b, off, x, rfl, hbB, hx, c0, c1, c2, c3, c4⟩ := (hr.below (hb.mono hB)).atStk hlt
      have HX := Lib.hid hx
      have HB := Lib.hid hb
      clear hx hb
      rcases hin : goodS x with _ | _
      · have HI := Lib.hid hin
        go_wp2_with (go_at_call 45; refine (maGood_any _ _ _ _ _ _).mono ?_; rintro e w' ⟨rfl, hb2⟩; rw [show strikeB x.a x.b x.c x.d x.f = false from HI.out])
        go_ret
        exact ⟨ret_bool (list_no HX.out HI.out).symm, bl_trans HB.out (bl_trans (bl_alloc (Below.refl _ _) _) hb2)⟩
      · have HI := Lib.hid hin
        go_wp2_with (go_at_call 45; refine (maGood_any _ _ _ _ _ _).mono ?_; rintro e w' ⟨rfl, hb2⟩; rw [show strikeB x.a x.b x.c x.d x.f = true from HI.out])
        go_roundw
        case rel => exact ⟨k + 1, by omega, by go_num, bl_trans HB.out (bl_trans (bl_alloc (Below.refl _ _) _) hb2), all_snoc HX.out HA.out HI.out⟩
        case measure => simp [intOf]; omega
    · obtain rfl : k = n := by omega
      have HE := Lib.hid (list_end (by omega) HA.out)
      by_cases h8 : xs.length ≤ 30
      all_goals
        go_wp2
        go_ret
        exact ⟨ret_bool (by rw [HE.out, hl]; first | rfl | (rw [decide_eq_decide]; omega) | (simp; omega)), hb⟩
set_option maxHeartbeats 1000000 in
theorem areStrikes_any (A : Option Addr) (n c B : Nat) (xs : List Stk) (w : World) (hr : Rd cStk 5 w B A n xs) (hB : B ≤ w.heap.size) (hn : n ≤ 1048576) :
    Calls Try.prog 57 #[.slice A n c] w fun e w' => e = .returned (.bool (listB xs)) ∧ Below w.heap.size w w' := by
  have hl := hr.1
  go_enter Try.func57, Try.ntmps57
  go_wp2
  go_loopw [4, 7] (fun _ i wr => ∃ k : Nat, k ≤ n ∧ i = .int .i64 k ∧ Below w.heap.size w wr ∧ Hid ((xs.take k).all goodS = true)) (fun _ i _ => n - (intOf i).toNat)
  case atStart => exact ⟨0, Nat.zero_le _, rfl, Below.refl _ _, rfl⟩
  case round =>
    obtain ⟨k, hk, rfl, hb, HA⟩ := hrel
    by_cases hlt : k < n
    · obtain ⟨b, off, x, rfl, hbB, hx, c0, c1, c2, c3, c4⟩ := (hr.below (hb.mono hB)).atStk hlt
      have HX := Lib.hid hx
      have HB := Lib.hid hb
      clear hx hb
      rcases hin : goodS x with _ | _
      · have HI := Lib.hid hin
        go_wp2_with (go_at_call 16; refine (implIsStrike_any _ _ _ _ _ _).mono ?_; rintro e w' ⟨rfl, hb2⟩; rw [show strikeB x.a x.b x.c x.d x.f = false from HI.out])
        go_ret
        exact ⟨ret_bool (list_no HX.out HI.out).symm, bl_trans HB.out (bl_trans (bl_alloc (Below.refl _ _) _) hb2)⟩
      · have HI := Lib.hid hin
        go_wp2_with (go_at_call 16; refine (implIsStrike_any _ _ _ _ _ _).mono ?_; rintro e w' ⟨rfl, hb2⟩; rw [show strikeB x.a x.b x.c x.d x.f = true from HI.out])
        go_roundw
        case rel => exact ⟨k + 1, by omega, by go_num, bl_trans HB.out (bl_trans (bl_alloc (Below.refl _ _) _) hb2), all_snoc HX.out HA.out HI.out⟩
        case measure => simp [intOf]; omega
    · obtain rfl : k = n := by omega
      have HE := Lib.hid (list_end (by omega) HA.out)
      by_cases h8 : xs.length ≤ 30
      all_goals
        go_wp2
        go_ret
        exact ⟨ret_bool (by rw [HE.out, hl]; first | rfl | (rw [decide_eq_decide]; omega) | (simp; omega)), hb⟩
end Go.Proofs.Ytbklljbjggoiaaa
