/-
  Texts of letters: contracts of areLetters and tyLetters.
-/
import Derived.Test.YtgfobchpkjpiiaaDoorNum
import Derived.Test.YtgfobchpkjpiiaaDoorCom
namespace Go.Proofs.YtgfobchpkjpiiaaDoor
open Go.RowKit
set_option linter.unusedVariables false

def letter (b : UInt8) : Bool := decide (97 ≤ b.toNat) && decide (b.toNat ≤ 122)
def lettersB (s : ByteArray) (lo hi : Int) : Bool := s.data.toList.all letter && inB s.size lo hi
theorem str_at (s : ByteArray) (k : Nat) (h : k < s.size) : s.data.toList[k]? = some s[k] := by
  rw [List.getElem?_eq_getElem (by simpa using h)]
  rfl
theorem letters_no {s : ByteArray} {k : Nat} (h : k < s.size) (hl : letter s[k] = false) (lo hi : Int) : lettersB s lo hi = false := by
  unfold lettersB
  rw [all_no (str_at s k h) hl, Bool.false_and]
theorem letters_end {s : ByteArray} {k : Nat} (hk : s.size ≤ k) (h : (s.data.toList.take k).all letter = true) (lo hi : Int) : lettersB s lo hi = inB s.size lo hi := by
  unfold lettersB
  rw [all_end (by simpa using hk) h, Bool.true_and]
theorem letter_iff {b : UInt8} : letter b = true ↔ (97 : Int) ≤ (b.toNat : Int) ∧ (b.toNat : Int) ≤ 122 := by
  simp [letter]; omega
set_option maxHeartbeats 1000000 in
theorem tyLetters_any (s : ByteArray) (hi : Int) (w : World) (hs : s.size ≤ maxLen) : Calls Tryd.prog 88 #[.string s, .int .i64 hi] w fun e w' => e = .returned (.bool (lettersB s 1 hi)) ∧ w = w' := by
  unfold maxLen at hs
  go_enter Tryd.func88, Tryd.ntmps88
  go_wp2
  go_loop [5] (fun i => ∃ k : Nat, k ≤ s.size ∧ i = .int .i64 k ∧ Hid ((s.data.toList.take k).all letter = true)) (fun i => s.size - (intOf i).toNat)
  case atStart => exact ⟨0, Nat.zero_le _, rfl, rfl⟩
  case round =>
    obtain ⟨k, hk, rfl, HA⟩ := hrel
    by_cases hlt : k < s.size
    · rcases hl : letter s[k] with _ | _
      · have HL := Lib.hid hl
        have hcase : (s[k].toNat : Int) < 97 ∨ 97 ≤ (s[k].toNat : Int) ∧ 122 < (s[k].toNat : Int) := by
          have := mt letter_iff.2 (by rw [hl]; simp)
          omega
        clear hl
        rcases hcase with h1 | ⟨h1, h2⟩
        all_goals
          go_wp2
          go_ret
          exact ⟨ret_bool (letters_no hlt HL.out _ _).symm, rfl⟩
      · have HL := Lib.hid hl
        obtain ⟨h1, h2⟩ := letter_iff.1 hl
        clear hl
        go_wp2
        go_round
        case rel => exact ⟨k + 1, by omega, by go_num, all_snoc (str_at s k hlt) HA.out HL.out⟩
        case measure => simp [intOf]; omega
    · have HE := Lib.hid (letters_end (by omega) HA.out 1 hi)
      go_wp2_with (go_at_call 76; refine (l1In_any _ _ _ _).mono ?_; rintro e w' ⟨rfl, rfl⟩)
      go_ret
      exact ⟨ret_bool HE.out.symm, rfl⟩
set_option maxHeartbeats 1000000 in
theorem areLetters_any (s : ByteArray) (lo hi : Int) (w : World) (hs : s.size ≤ maxLen) : Calls Tryd.prog 96 #[.string s, .int .i64 lo, .int .i64 hi] w fun e w' => e = .returned (.bool (lettersB s lo hi)) ∧ w = w' := by
  unfold maxLen at hs
  go_enter Tryd.func96, Tryd.ntmps96
  go_wp2
  go_loop [7] (fun i => ∃ k : Nat, k ≤ s.size ∧ i = .int .i64 k ∧ Hid ((s.data.toList.take k).all letter = true)) (fun i => s.size - (intOf i).toNat)
  case atStart => exact ⟨0, Nat.zero_le _, rfl, rfl⟩
  case round =>
    obtain ⟨k, hk, rfl, HA⟩ := hrel
    by_cases hlt : k < s.size
    · rcases hl : letter s[k] with _ | _
      · have HL := Lib.hid hl
        have hcase : (s[k].toNat : Int) < 97 ∨ 97 ≤ (s[k].toNat : Int) ∧ 122 < (s[k].toNat : Int) := by
          have := mt letter_iff.2 (by rw [hl]; simp)
          omega
        clear hl
        rcases hcase with h1 | ⟨h1, h2⟩
        all_goals
          go_wp2
          go_ret
          exact ⟨ret_bool (letters_no hlt HL.out _ _).symm, rfl⟩
      · have HL := Lib.hid hl
        obtain ⟨h1, h2⟩ := letter_iff.1 hl
        clear hl
        go_wp2
        go_round
        case rel => exact ⟨k + 1, by omega, by go_num, all_snoc (str_at s k hlt) HA.out HL.out⟩
        case measure => simp [intOf]; omega
    · have HE := Lib.hid (letters_end (by omega) HA.out lo hi)
      go_wp2_with (go_at_call 74; refine (within_any _ _ _ _).mono ?_; rintro e w' ⟨rfl, rfl⟩)
      go_ret
      exact ⟨ret_bool HE.out.symm, rfl⟩
theorem isCode_any (s : ByteArray) (w : World) (hs : s.size ≤ maxLen) : Calls Tryd.prog 89 #[.string s] w fun e w' => e = .returned (.bool (lettersB s 1 3)) ∧ w = w' := by
  go_enter Tryd.func89, Tryd.ntmps89
  go_wp2_with (go_at_call 96; refine (areLetters_any _ _ _ _ hs).mono ?_; rintro e w' ⟨rfl, rfl⟩)
  go_ret
  exact ⟨rfl, rfl⟩
end Go.Proofs.YtgfobchpkjpiiaaDoor
