/-
  Contracts of the small functions on numbers, and of the loops over a slice of int, that several statements share.
-/
import Derived.Test.YtblgeehdngejpaaRows
import Derived.Test.YtblgeehdngejpaaLib
import Derived.Test.YtblgeehdngejpaaOpn
namespace Go.Proofs.Ytblgeehdngejpaa
open Go.RowKit
set_option linter.unusedVariables false

theorem l1In_any (n lo hi : Int) (w : World) : Calls Try.prog 10 #[.int .i64 n, .int .i64 lo, .int .i64 hi] w fun e w' => e = .returned (.bool (inB n lo hi)) ∧ w = w' := by
  by_cases h1 : lo ≤ n <;> by_cases h2 : n ≤ hi
  all_goals
    go_enter Try.func10, Try.ntmps10
    go_wp2
    go_ret
    exact ⟨by simp [inB, h1, h2], rfl⟩
theorem within_any (n lo hi : Int) (w : World) : Calls Try.prog 12 #[.int .i64 n, .int .i64 lo, .int .i64 hi] w fun e w' => e = .returned (.bool (inB n lo hi)) ∧ w = w' := by
  by_cases h1 : lo ≤ n <;> by_cases h2 : n ≤ hi
  all_goals
    go_enter Try.func12, Try.ntmps12
    go_wp2
    go_ret
    exact ⟨by simp [inB, h1, h2], rfl⟩
set_option maxHeartbeats 400000 in
theorem l1All_any (A : Option Addr) (n c B : Nat) (xs : List Int) (lo hi : Int) (w : World) (hr : Rd cI 1 w B A n xs) (hn : n ≤ maxLen) :
    Calls Try.prog 11 #[.slice A n c, .int .i64 lo, .int .i64 hi] w fun e w' => e = .returned (.bool (allIn xs lo hi)) ∧ w = w' := by
  unfold maxLen at hn
  go_enter Try.func11, Try.ntmps11
  go_wp2
  go_loop [8, 11] (fun _ i => ∃ k : Nat, k ≤ n ∧ i = .int .i64 k ∧ (xs.take k).all (inB · lo hi) = true) (fun _ i => n - (intOf i).toNat)
  case atStart => exact ⟨0, Nat.zero_le _, rfl, rfl⟩
  case round =>
    obtain ⟨k, hk, rfl, hall⟩ := hrel
    have HA := Lib.hid hall
    clear hall
    by_cases hlt : k < n
    · obtain ⟨b, off, x, rfl, _, hx, hc⟩ := hr.atI hlt
      have HX := Lib.hid hx
      clear hx
      by_cases hin : inB x lo hi = true
      · go_wp2_with (go_at_call 10; refine (l1In_any _ _ _ _).mono ?_; rintro e w' ⟨rfl, rfl⟩)
        go_round
        case rel => exact ⟨k + 1, by omega, by go_num, all_snoc HX.out HA.out hin⟩
        case measure => simp [intOf]; omega
      · have hin' : inB x lo hi = false := by simpa using hin
        clear hin
        go_wp2_with (go_at_call 10; refine (l1In_any _ _ _ _).mono ?_; rintro e w' ⟨rfl, rfl⟩)
        go_ret
        exact ⟨ret_bool (all_no HX.out hin').symm, rfl⟩
    · go_wp2
      go_ret
      exact ⟨ret_bool (all_end (by have := hr.1; omega) HA.out).symm, rfl⟩
end Go.Proofs.Ytblgeehdngejpaa
