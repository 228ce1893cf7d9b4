/-
  The parsers' numbers of the specification, read from a text.
-/
import Derived.Test.YtgfobchpkjpiiaaDoorPrs2
namespace Go.Proofs.YtgfobchpkjpiiaaDoor
open Go.RowKit
set_option linter.unusedVariables false
attribute [local go_sem ↓] Go.wp_at_zero Go.wp_at_succ

theorem dv_in {x : UInt8} {d : Nat} (h : x.toNat = 48 + d) (hd : d < 10) : Lib.digitVal x = some d := by
  unfold Lib.digitVal
  rw [if_pos (by omega)]
  congr 1
  omega
theorem dv_out {x : UInt8} (h : x.toNat < 48 ∨ 57 < x.toNat) : Lib.digitVal x = none := by
  unfold Lib.digitVal
  rw [if_neg (by omega)]
theorem dec_step {s : ByteArray} {j v d : Nat} (hlt : j < s.size) (h : Lib.decFrom 0 (s.data.toList.take j) = some v) (hx : s[j].toNat = 48 + d) (hd : d < 10) : Lib.decFrom 0 (s.data.toList.take (j + 1)) = some (10 * v + d) := by
  rw [take_snoc (byte_at hlt), decFrom_app, h, dv_in hx hd]
  show some (v * 10 + d) = _
  congr 1; omega
theorem bytes_len (s : ByteArray) : s.data.toList.length = s.size := Array.length_toList
theorem pow10_le {j v m : Nat} (h : v < 10 ^ j) (hj : j ≤ m) : v < 10 ^ m := Nat.lt_of_lt_of_le h (Nat.pow_le_pow_right (by decide) hj)
theorem pow10_step {j v d : Nat} (h : v < 10 ^ j) (hd : d < 10) : 10 * v + d < 10 ^ (j + 1) := by rw [Nat.pow_succ]; omega

set_option maxRecDepth 8000 in
set_option maxHeartbeats 4000000 in
theorem meRead_any (s : ByteArray) (w : World) (hs : s.size ≤ 1048576) : Calls Tryd.prog 65 #[.string s] w fun e w' => e = .returned (.int .i64 (rdV 10 s.data.toList)) ∧ w = w' := by
  have hl := bytes_len s
  by_cases h1 : 1 ≤ s.size ∧ s.size ≤ 10
  · obtain ⟨h1, h2⟩ := h1
    have hB : inB (s.size : Int) 1 10 = true := by unfold inB; rw [Bool.and_eq_true, decide_eq_true_iff, decide_eq_true_iff]; omega
    have hi0 : 0 < s.size := by omega
    have hi0z : (0 : Int) < (s.size : Int) := by omega
    by_cases hc : s[0] = 48 ∧ 1 < s.size
    · obtain ⟨h0, hl1⟩ := hc
      have HV := Lib.hid (show rdV 10 s.data.toList = -1 from rdV_out (by rw [byte_at hi0, h0]; rintro ⟨_, h⟩; exact h ⟨rfl, by omega⟩))
      have h0v : ((s[0].toNat : Nat) : Int) = 48 := by rw [h0]; rfl
      have hl1z : (1 : Int) < (s.size : Int) := by omega
      clear h0
      go_enter Tryd.func65, Tryd.ntmps65
      go_wp2_with (go_at_call 76; refine (l1In_any _ _ _ _).mono ?_; rw [hB]; rintro e w1 ⟨rfl, rfl⟩)
      go_ret
      exact ⟨by rw [HV.out]; rfl, rfl⟩
    · have HIN := Lib.hid (fun (v : Nat) (hv : Lib.decFrom 0 s.data.toList = some v) => rdV_in (m := 10) (l := s.data.toList) ⟨by omega, by rw [byte_at hi0]; rintro ⟨h3, h4⟩; exact hc ⟨by simpa using h3, by omega⟩⟩ hv)
      have HC : (¬ ((s[0].toNat : Nat) : Int) = 48) ∨ (((s[0].toNat : Nat) : Int) = 48 ∧ ¬ (1 : Int) < (s.size : Int)) := by
        by_cases h0 : s[0] = 48
        · exact .inr ⟨by rw [h0]; rfl, fun h => hc ⟨h0, by omega⟩⟩
        · refine .inl fun h => h0 (UInt8.toNat_inj.1 ?_)
          have : (48 : UInt8).toNat = 48 := rfl
          omega
      clear hc
      rcases HC with h0 | ⟨h0, hl1⟩
      all_goals
        go_enter Tryd.func65, Tryd.ntmps65
        go_wp2_with (go_at_call 76; refine (l1In_any _ _ _ _).mono ?_; rw [hB]; rintro e w1 ⟨rfl, rfl⟩)
        go_loop [3, 4] (fun a i => ∃ j v : Nat, j ≤ s.size ∧ i = .int .i64 j ∧ a = .int .i64 v ∧ v < 10 ^ j ∧ Hid (Lib.decFrom 0 (s.data.toList.take j) = some v)) (fun _ i => s.size - (intOf i).toNat)
        case atStart => exact ⟨0, 0, Nat.zero_le _, rfl, rfl, by decide, Lib.hid rfl⟩
        case round =>
          obtain ⟨j, v, hj, rfl, rfl, hv, HD⟩ := hrel
          by_cases hlt : j < s.size
          · have g1 : (0 : Int) ≤ (j : Int) := by omega
            have g2 : (j : Int) < (s.size : Int) := by omega
            have hv10 : v < 10 ^ 10 := pow10_le hv (by omega)
            have hv11 : v < 10000000000 := by simpa using hv10
            by_cases hx1 : s[j].toNat < 48
            · have HV := Lib.hid (rdV_bad (m := 10) (byte_at hlt) (dv_out (.inl hx1)))
              have hx : ((s[j].toNat : Nat) : Int) < 48 := by omega
              clear hx1 hv hv10
              go_wp2
              go_ret
              exact ⟨by rw [HV.out]; rfl, rfl⟩
            · by_cases hx2 : 57 < s[j].toNat
              · have HV := Lib.hid (rdV_bad (m := 10) (byte_at hlt) (dv_out (.inr hx2)))
                have hx : ¬ ((s[j].toNat : Nat) : Int) < 48 := by omega
                have hx' : (57 : Int) < ((s[j].toNat : Nat) : Int) := by omega
                clear hx1 hx2 hv hv10
                go_wp2
                go_ret
                exact ⟨by rw [HV.out]; rfl, rfl⟩
              · have hx : ¬ ((s[j].toNat : Nat) : Int) < 48 := by omega
                have hx' : ¬ (57 : Int) < ((s[j].toNat : Nat) : Int) := by omega
                have hw : IntKind.u8.wrap (((s[j].toNat : Nat) : Int) - 48) = ((s[j].toNat : Nat) : Int) - 48 := IntWalk.u8_in _ (by omega)
                obtain ⟨d, hd⟩ : ∃ d, s[j].toNat = 48 + d := ⟨s[j].toNat - 48, by omega⟩
                have HX := Lib.hid hd
                have HD2 := Lib.hid (dec_step hlt HD.out hd (by omega))
                have hv2 := Lib.hid (pow10_step hv (d := d) (by omega))
                clear hv hv10 hx1 hx2 hd
                go_wp2
                go_round
                case rel => exact ⟨j + 1, 10 * v + d, by omega, by go_num, by have := HX.out; congr 1; omega, hv2.out, HD2⟩
                case measure => simp [intOf]; omega
          · have hjn : j = s.size := by omega
            have HV := Lib.hid (HIN.out v (by have := HD.out; rw [List.take_of_length_le (by omega)] at this; exact this))
            clear hv
            go_wp2
            go_ret
            exact ⟨by rw [HV.out]; rfl, rfl⟩
  · have hB : inB (s.size : Int) 1 10 = false := by
      by_cases h2 : 1 ≤ s.size
      · unfold inB; rw [Bool.and_eq_false_iff, decide_eq_false_iff_not, decide_eq_false_iff_not]; omega
      · unfold inB; rw [Bool.and_eq_false_iff, decide_eq_false_iff_not, decide_eq_false_iff_not]; omega
    have HV := Lib.hid (show rdV 10 s.data.toList = -1 from rdV_out (by rintro ⟨h, _⟩; omega))
    clear h1
    go_enter Tryd.func65, Tryd.ntmps65
    go_wp2_with (go_at_call 76; refine (l1In_any _ _ _ _).mono ?_; rw [hB]; rintro e w1 ⟨rfl, rfl⟩)
    go_ret
    exact ⟨by rw [HV.out]; rfl, rfl⟩

set_option maxRecDepth 8000 in
set_option maxHeartbeats 4000000 in
theorem l1Read_any (s : ByteArray) (w : World) (hs : s.size ≤ 1048576) : Calls Tryd.prog 67 #[.string s] w fun e w' => e = .returned (.int .i64 (rdV 6 s.data.toList)) ∧ w = w' := by
  have hl := bytes_len s
  by_cases h1 : 1 ≤ s.size ∧ s.size ≤ 6
  · obtain ⟨h1, h2⟩ := h1
    have hB : inB (s.size : Int) 1 6 = true := by unfold inB; rw [Bool.and_eq_true, decide_eq_true_iff, decide_eq_true_iff]; omega
    have hi0 : 0 < s.size := by omega
    have hi0z : (0 : Int) < (s.size : Int) := by omega
    by_cases hc : s[0] = 48 ∧ 1 < s.size
    · obtain ⟨h0, hl1⟩ := hc
      have HV := Lib.hid (show rdV 6 s.data.toList = -1 from rdV_out (by rw [byte_at hi0, h0]; rintro ⟨_, h⟩; exact h ⟨rfl, by omega⟩))
      have h0v : ((s[0].toNat : Nat) : Int) = 48 := by rw [h0]; rfl
      have hl1z : (1 : Int) < (s.size : Int) := by omega
      clear h0
      go_enter Tryd.func67, Tryd.ntmps67
      go_wp2_with (go_at_call 76; refine (l1In_any _ _ _ _).mono ?_; rw [hB]; rintro e w1 ⟨rfl, rfl⟩)
      go_ret
      exact ⟨by rw [HV.out]; rfl, rfl⟩
    · have HIN := Lib.hid (fun (v : Nat) (hv : Lib.decFrom 0 s.data.toList = some v) => rdV_in (m := 6) (l := s.data.toList) ⟨by omega, by rw [byte_at hi0]; rintro ⟨h3, h4⟩; exact hc ⟨by simpa using h3, by omega⟩⟩ hv)
      have HC : (¬ ((s[0].toNat : Nat) : Int) = 48) ∨ (((s[0].toNat : Nat) : Int) = 48 ∧ ¬ (1 : Int) < (s.size : Int)) := by
        by_cases h0 : s[0] = 48
        · exact .inr ⟨by rw [h0]; rfl, fun h => hc ⟨h0, by omega⟩⟩
        · refine .inl fun h => h0 (UInt8.toNat_inj.1 ?_)
          have : (48 : UInt8).toNat = 48 := rfl
          omega
      clear hc
      rcases HC with h0 | ⟨h0, hl1⟩
      all_goals
        go_enter Tryd.func67, Tryd.ntmps67
        go_wp2_with (go_at_call 76; refine (l1In_any _ _ _ _).mono ?_; rw [hB]; rintro e w1 ⟨rfl, rfl⟩)
        go_loop [3, 4] (fun a i => ∃ j v : Nat, j ≤ s.size ∧ i = .int .i64 j ∧ a = .int .i64 v ∧ v < 10 ^ j ∧ Hid (Lib.decFrom 0 (s.data.toList.take j) = some v)) (fun _ i => s.size - (intOf i).toNat)
        case atStart => exact ⟨0, 0, Nat.zero_le _, rfl, rfl, by decide, Lib.hid rfl⟩
        case round =>
          obtain ⟨j, v, hj, rfl, rfl, hv, HD⟩ := hrel
          by_cases hlt : j < s.size
          · have g1 : (0 : Int) ≤ (j : Int) := by omega
            have g2 : (j : Int) < (s.size : Int) := by omega
            have hv10 : v < 10 ^ 10 := pow10_le hv (by omega)
            have hv11 : v < 10000000000 := by simpa using hv10
            by_cases hx1 : s[j].toNat < 48
            · have HV := Lib.hid (rdV_bad (m := 6) (byte_at hlt) (dv_out (.inl hx1)))
              have hx : ((s[j].toNat : Nat) : Int) < 48 := by omega
              clear hx1 hv hv10
              go_wp2
              go_ret
              exact ⟨by rw [HV.out]; rfl, rfl⟩
            · by_cases hx2 : 57 < s[j].toNat
              · have HV := Lib.hid (rdV_bad (m := 6) (byte_at hlt) (dv_out (.inr hx2)))
                have hx : ¬ ((s[j].toNat : Nat) : Int) < 48 := by omega
                have hx' : (57 : Int) < ((s[j].toNat : Nat) : Int) := by omega
                clear hx1 hx2 hv hv10
                go_wp2
                go_ret
                exact ⟨by rw [HV.out]; rfl, rfl⟩
              · have hx : ¬ ((s[j].toNat : Nat) : Int) < 48 := by omega
                have hx' : ¬ (57 : Int) < ((s[j].toNat : Nat) : Int) := by omega
                have hw : IntKind.u8.wrap (((s[j].toNat : Nat) : Int) - 48) = ((s[j].toNat : Nat) : Int) - 48 := IntWalk.u8_in _ (by omega)
                obtain ⟨d, hd⟩ : ∃ d, s[j].toNat = 48 + d := ⟨s[j].toNat - 48, by omega⟩
                have HX := Lib.hid hd
                have HD2 := Lib.hid (dec_step hlt HD.out hd (by omega))
                have hv2 := Lib.hid (pow10_step hv (d := d) (by omega))
                clear hv hv10 hx1 hx2 hd
                go_wp2
                go_round
                case rel => exact ⟨j + 1, 10 * v + d, by omega, by go_num, by have := HX.out; congr 1; omega, hv2.out, HD2⟩
                case measure => simp [intOf]; omega
          · have hjn : j = s.size := by omega
            have HV := Lib.hid (HIN.out v (by have := HD.out; rw [List.take_of_length_le (by omega)] at this; exact this))
            clear hv
            go_wp2
            go_ret
            exact ⟨by rw [HV.out]; rfl, rfl⟩
  · have hB : inB (s.size : Int) 1 6 = false := by
      by_cases h2 : 1 ≤ s.size
      · unfold inB; rw [Bool.and_eq_false_iff, decide_eq_false_iff_not, decide_eq_false_iff_not]; omega
      · unfold inB; rw [Bool.and_eq_false_iff, decide_eq_false_iff_not, decide_eq_false_iff_not]; omega
    have HV := Lib.hid (show rdV 6 s.data.toList = -1 from rdV_out (by rintro ⟨h, _⟩; omega))
    clear h1
    go_enter Tryd.func67, Tryd.ntmps67
    go_wp2_with (go_at_call 76; refine (l1In_any _ _ _ _).mono ?_; rw [hB]; rintro e w1 ⟨rfl, rfl⟩)
    go_ret
    exact ⟨by rw [HV.out]; rfl, rfl⟩
end Go.Proofs.YtgfobchpkjpiiaaDoor
