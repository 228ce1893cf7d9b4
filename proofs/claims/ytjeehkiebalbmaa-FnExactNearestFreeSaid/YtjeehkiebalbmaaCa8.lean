/-
  The nearest free place: the walks of the searches; the law's walk.
-/
import Derived.Test.YtjeehkiebalbmaaCa7
namespace Go.Proofs.Ytjeehkiebalbmaa
open Go.RowKit
set_option linter.unusedVariables false
attribute [local go_sem ↓] Go.wp_at_zero Go.wp_at_succ

set_option maxHeartbeats 2000000 in
theorem implNF_yes (A : Option Addr) (n c : Nat) (xs : List Box) (row col : Int) (w : World) (hr : Rd cBox 4 w w.heap.size A n xs) (hn : n ≤ 1048576) (hok : ∀ x ∈ xs, okBox x) (hcap : n ≤ c) (h : nfB xs row col = true) :
    Calls Try.prog 24 #[.slice A n c, .int .i64 row, .int .i64 col] w (TripB (imR (nfTo xs row col 100)) (imC (nfTo xs row col 100)) true w) := by
  have hl := hr.1
  obtain ⟨h1, ⟨r0, r1⟩, ⟨c0, c1⟩, h2, h3⟩ := nf_all h
  have hG := implIsCase_any A n c _ xs w hr (Nat.le_refl _) hn hok hcap
  rw [h1] at hG
  have HG := Lib.hid hG
  have H2 := Lib.hid h2
  have H3 := Lib.hid h3
  have HOK := Lib.hid (nfTo_ok (xs := xs) (row := row) (col := col) ⟨r0, r1⟩ ⟨c0, c1⟩)
  have HD := Lib.hid (fun (i k : Nat) hi hk => dstI_bd (row := row) (col := col) ⟨r0, r1⟩ ⟨c0, c1⟩ (i := i) (k := k) hi hk)
  clear hok h h1 h2 h3 hG
  go_enter Try.func24, Try.ntmps24
  go_wp2_with (first | (go_at_call 17; refine HG.out.mono ?_; rintro e W ⟨rfl, hbW⟩) | (go_at_call 34; refine (isPlace_any _ _).mono ?_; (first | rw [H2.out] | rw [H3.out]); rintro e w' ⟨rfl, hww⟩; obtain rfl := hww.symm))
  have HW := Lib.hid hbW
  clear hbW
  go_loopw [9, 10, 11, 12] (fun p q b i wr => ∃ m : Nat, m ≤ 10 ∧ i = .int .i64 m ∧ p = .int .i64 (imR (nfTo xs row col (10 * m))) ∧ q = .int .i64 (imC (nfTo xs row col (10 * m))) ∧ b = .int .i64 (imD (nfTo xs row col (10 * m))) ∧ Below W.heap.size W wr) (fun _ _ _ i _ => 10 - (intOf i).toNat)
  case atStart => exact ⟨0, Nat.zero_le _, rfl, rfl, rfl, rfl, Below.refl _ _⟩
  case round =>
    obtain ⟨m, hm, rfl, rfl, rfl, rfl, hb⟩ := hrel
    by_cases hlt : m < 10
    · obtain ⟨wo, rfl⟩ : ∃ wo : World, wo = wr := ⟨_, rfl⟩
      have HB := Lib.hid hb
      have hm9 : (m : Int) ≤ 9 := by omega
      clear hb
      go_wp2
      go_loopw [9, 10, 11, 13] (fun p q b i wr => ∃ k : Nat, k ≤ 10 ∧ i = .int .i64 k ∧ p = .int .i64 (imR (nfTo xs row col (10 * m + k))) ∧ q = .int .i64 (imC (nfTo xs row col (10 * m + k))) ∧ b = .int .i64 (imD (nfTo xs row col (10 * m + k))) ∧ Below W.heap.size W wr) (fun _ _ _ i _ => 10 - (intOf i).toNat)
      case atStart => exact ⟨0, Nat.zero_le _, rfl, rfl, rfl, rfl, HB.out⟩
      case round =>
        obtain ⟨k, hk, rfl, rfl, rfl, rfl, hb⟩ := hrel
        by_cases hltk : k < 10
        · have hstep := nfTo_snoc xs row col (i := m) hltk
          have hk9 : (k : Int) ≤ 9 := by omega
          have hok := HOK.out (10 * m + k) (by omega)
          have hd := HD.out m k hlt hltk
          have hrr := hr.below ((bl_trans HW.out hb))
          have hBs := (bl_trans HW.out hb).size
          obtain ⟨st, hst⟩ : ∃ st, nfTo xs row col (10 * m + k) = st := ⟨_, rfl⟩
          rw [hst] at hstep hok
          rw [hst]
          clear hst
          have HB2 := Lib.hid hb
          have HRR := Lib.hid hrr
          have HDD := Lib.hid (show absI ((m : Int) - row) + absI ((k : Int) - col) = dstI row col m k from rfl)
          have a1 := absI_bd (a := (m : Int)) (b := row) (by omega) ⟨r0, r1⟩
          have a2 := absI_bd (a := (k : Int)) (b := col) (by omega) ⟨c0, c1⟩
          clear hb hrr
          rcases htk : takenB xs (m : Int) (k : Int) with _ | _
          · have HTK := Lib.hid htk
            rcases st with _ | ⟨qr, qc, qd⟩
            · rw [nfStep_first htk] at hstep
              have HST := Lib.hid hstep
              clear hstep hok htk
              dsimp only [imR, imC, imD]
              go_wp2_with (first | (go_at_call 44; refine (abs_any _ _ (by omega) (by omega)).mono ?_; rintro e w' ⟨rfl, rfl⟩) | (go_at_call 37; refine (isTaken_any _ _ _ _ xs _ _ _ HRR.out hBs hn).mono ?_; rw [HTK.out]; rintro e w' ⟨rfl, hb⟩))
              go_roundw
              case rel => exact ⟨k + 1, by omega, by go_num, by rw [HST.out] <;> rfl, by rw [HST.out] <;> rfl, by rw [HST.out] <;> rfl, bl_trans HB2.out hb⟩
              case measure => simp [intOf]; omega
            · obtain ⟨q0, q1, q2⟩ := hok qr qc qd rfl
              by_cases hlt2 : absI ((m : Int) - row) + absI ((k : Int) - col) < qd
              · rw [nfStep_less htk hlt2] at hstep
                have HST := Lib.hid hstep
                clear hstep hok htk
                dsimp only [imR, imC, imD]
                go_wp2_with (first | (go_at_call 44; refine (abs_any _ _ (by omega) (by omega)).mono ?_; rintro e w' ⟨rfl, rfl⟩) | (go_at_call 37; refine (isTaken_any _ _ _ _ xs _ _ _ HRR.out hBs hn).mono ?_; rw [HTK.out]; rintro e w' ⟨rfl, hb⟩))
                go_roundw
                case rel => exact ⟨k + 1, by omega, by go_num, by rw [HST.out] <;> rfl, by rw [HST.out] <;> rfl, by rw [HST.out] <;> rfl, bl_trans HB2.out hb⟩
                case measure => simp [intOf]; omega
              · rw [nfStep_more htk hlt2] at hstep
                have HST := Lib.hid hstep
                clear hstep hok htk
                dsimp only [imR, imC, imD]
                go_wp2_with (first | (go_at_call 44; refine (abs_any _ _ (by omega) (by omega)).mono ?_; rintro e w' ⟨rfl, rfl⟩) | (go_at_call 37; refine (isTaken_any _ _ _ _ xs _ _ _ HRR.out hBs hn).mono ?_; rw [HTK.out]; rintro e w' ⟨rfl, hb⟩))
                go_roundw
                case rel => exact ⟨k + 1, by omega, by go_num, by rw [HST.out] <;> rfl, by rw [HST.out] <;> rfl, by rw [HST.out] <;> rfl, bl_trans HB2.out hb⟩
                case measure => simp [intOf]; omega
          · have HTK := Lib.hid htk
            rw [nfStep_taken htk] at hstep
            have HST := Lib.hid hstep
            clear hstep hok htk
            go_wp2_with (first | (go_at_call 44; refine (abs_any _ _ (by omega) (by omega)).mono ?_; rintro e w' ⟨rfl, rfl⟩) | (go_at_call 37; refine (isTaken_any _ _ _ _ xs _ _ _ HRR.out hBs hn).mono ?_; rw [HTK.out]; rintro e w' ⟨rfl, hb⟩))
            go_roundw
            case rel => exact ⟨k + 1, by omega, by go_num, by rw [HST.out], by rw [HST.out], by rw [HST.out], bl_trans HB2.out hb⟩
            case measure => simp [intOf]; omega
        · obtain rfl : k = 10 := by omega
          have HB2 := Lib.hid hb
          have HM := Lib.hid (show 10 * m + 10 = 10 * (m + 1) by omega)
          clear hb
          go_wp2
          go_roundw
          case rel => exact ⟨m + 1, by omega, by go_num, by rw [HM.out], by rw [HM.out], by rw [HM.out], HB2.out⟩
          case measure => simp [intOf]; omega
    · obtain rfl : m = 10 := by omega
      go_wp2
      go_ret3
      exact trip_b rfl rfl rfl (bl_trans HW.out hb)
end Go.Proofs.Ytjeehkiebalbmaa
