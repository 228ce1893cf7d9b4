/-
  The nearest free place: the walk of the reference's search; the law's walk.
-/
import Derived.Test.YtjeehkiebalbmaaCa8
namespace Go.Proofs.Ytjeehkiebalbmaa
open Go.RowKit
set_option linter.unusedVariables false
attribute [local go_sem ↓] Go.wp_at_zero Go.wp_at_succ

set_option maxHeartbeats 2000000 in
theorem specNF_yes (A : Option Addr) (n c : Nat) (xs : List Box) (row col : Int) (w : World) (hr : Rd cBox 4 w w.heap.size A n xs) (hn : n ≤ 1048576) (hok : ∀ x ∈ xs, okBox x) (hcap : n ≤ c) (h : nfB xs row col = true) :
    Calls Try.prog 23 #[.slice A n c, .int .i64 row, .int .i64 col] w (TripB (spR (nfTo xs row col 100)) (spC (nfTo xs row col 100)) true w) := by
  have hl := hr.1
  obtain ⟨h1, ⟨r0, r1⟩, ⟨c0, c1⟩, h2, h3⟩ := nf_all h
  have hG := caGood_any A n c _ xs w hr (Nat.le_refl _) hn hok hcap
  rw [h1] at hG
  have HG := Lib.hid hG
  have H2 := Lib.hid h2
  have H3 := Lib.hid h3
  have HOK := Lib.hid (nfTo_ok (xs := xs) (row := row) (col := col) ⟨r0, r1⟩ ⟨c0, c1⟩)
  have HD := Lib.hid (fun (i k : Nat) hi hk => dstI_bd (row := row) (col := col) ⟨r0, r1⟩ ⟨c0, c1⟩ (i := i) (k := k) hi hk)
  clear hok h h1 h2 h3 hG
  go_enter Try.func23, Try.ntmps23
  go_wp2_with (first | (go_at_call 36; refine HG.out.mono ?_; rintro e W ⟨rfl, hbW⟩) | (go_at_call 42; refine (l1In_any _ _ _ _).mono ?_; (first | rw [H2.out] | rw [H3.out]); rintro e w' ⟨rfl, rfl⟩))
  have HW := Lib.hid hbW
  clear hbW
  go_loopw [9, 10, 11, 12] (fun p q b i wr => ∃ m : Nat, m ≤ 10 ∧ i = .int .i64 m ∧ p = .int .i64 (spR (nfTo xs row col (10 * m))) ∧ q = .int .i64 (spC (nfTo xs row col (10 * m))) ∧ b = .int .i64 (spD (nfTo xs row col (10 * m))) ∧ Below W.heap.size W wr) (fun _ _ _ i _ => 10 - (intOf i).toNat)
  case atStart => exact ⟨0, Nat.zero_le _, rfl, rfl, rfl, rfl, Below.refl _ _⟩
  case round =>
    obtain ⟨m, hm, rfl, rfl, rfl, rfl, hb⟩ := hrel
    by_cases hlt : m < 10
    · obtain ⟨wo, rfl⟩ : ∃ wo : World, wo = wr := ⟨_, rfl⟩
      have HB := Lib.hid hb
      have hm9 : (m : Int) < 10 := by omega
      clear hb
      go_wp2
      go_loopw [9, 10, 11, 13] (fun p q b i wr => ∃ k : Nat, k ≤ 10 ∧ i = .int .i64 k ∧ p = .int .i64 (spR (nfTo xs row col (10 * m + k))) ∧ q = .int .i64 (spC (nfTo xs row col (10 * m + k))) ∧ b = .int .i64 (spD (nfTo xs row col (10 * m + k))) ∧ Below W.heap.size W wr) (fun _ _ _ i _ => 10 - (intOf i).toNat)
      case atStart => exact ⟨0, Nat.zero_le _, rfl, rfl, rfl, rfl, HB.out⟩
      case round =>
        obtain ⟨k, hk, rfl, rfl, rfl, rfl, hb⟩ := hrel
        by_cases hltk : k < 10
        · have hstep := nfTo_snoc xs row col (i := m) hltk
          have hk9 : (k : Int) < 10 := by omega
          have hok := HOK.out (10 * m + k) (by omega)
          have hd := HD.out m k hlt hltk
          have hrr := hr.below ((bl_trans HW.out hb))
          have hBs := (bl_trans HW.out hb).size
          obtain ⟨st, hst⟩ : ∃ st, nfTo xs row col (10 * m + k) = st := ⟨_, rfl⟩
          rw [hst] at hstep hok
          rw [hst]
          clear hst
          have HB2 := Lib.hid hb
          have HRR := Lib.hid hrr
          have HDD := Lib.hid (show absI ((m : Int) - row) + absI ((k : Int) - col) = dstI row col m k from rfl)
          have a1 := absI_bd (a := (m : Int)) (b := row) (by omega) ⟨r0, r1⟩
          have a2 := absI_bd (a := (k : Int)) (b := col) (by omega) ⟨c0, c1⟩
          clear hb hrr
          obtain ⟨wi, rfl⟩ : ∃ wi : World, wi = wr := ⟨_, rfl⟩
          go_wp2
          go_loopw [14, 41] (fun u i wr => ∃ j : Nat, j ≤ n ∧ i = .int .i64 j ∧ u = .bool ((xs.take j).any (atB (m : Int) (k : Int))) ∧ Below wi.heap.size wi wr) (fun _ i _ => n - (intOf i).toNat)
          case atStart => exact ⟨0, Nat.zero_le _, rfl, rfl, Below.refl _ _⟩
          case round =>
            obtain ⟨j, hj, rfl, rfl, hbj⟩ := hrel
            by_cases hltj : j < n
            · obtain ⟨b, off, x, rfl, hbB, hx, d0, d1, d2, d3⟩ := (HRR.out.below (hbj.mono hBs)).atBox hltj
              have HS := Lib.hid (show (xs.take (j + 1)).any (atB (m : Int) (k : Int)) = ((xs.take j).any (atB (m : Int) (k : Int)) || (x.row == (m : Int) && x.col == (k : Int))) by rw [take_snoc hx, List.any_append]; simp [atB])
              have HBJ := Lib.hid hbj
              clear hbj hx
              rcases hu : (xs.take j).any (atB (m : Int) (k : Int)) with _ | _
              · have HU := Lib.hid hu
                rcases g1 : (x.row == (m : Int)) with _ | _
                · have HQ := Lib.hid (show (xs.take (j + 1)).any (atB (m : Int) (k : Int)) = false by rw [HS.out, hu, g1]; rfl)
                  go_wp2
                  go_roundw
                  case rel => exact ⟨j + 1, by omega, by go_num, by rw [HQ.out], bl_trans HBJ.out (bl_alloc (Below.refl _ _) _)⟩
                  case measure => simp [intOf]; omega
                · rcases g2 : (x.col == (k : Int)) with _ | _
                  · have HQ := Lib.hid (show (xs.take (j + 1)).any (atB (m : Int) (k : Int)) = false by rw [HS.out, hu, g1, g2]; rfl)
                    go_wp2
                    go_roundw
                    case rel => exact ⟨j + 1, by omega, by go_num, by rw [HQ.out], bl_trans HBJ.out (bl_alloc (Below.refl _ _) _)⟩
                    case measure => simp [intOf]; omega
                  · have HQ := Lib.hid (show (xs.take (j + 1)).any (atB (m : Int) (k : Int)) = true by rw [HS.out, hu, g1, g2]; rfl)
                    go_wp2
                    go_roundw
                    case rel => exact ⟨j + 1, by omega, by go_num, by rw [HQ.out], bl_trans HBJ.out (bl_alloc (Below.refl _ _) _)⟩
                    case measure => simp [intOf]; omega
              · have HQ := Lib.hid (show (xs.take (j + 1)).any (atB (m : Int) (k : Int)) = true by rw [HS.out, hu]; rfl)
                go_wp2
                go_roundw
                case rel => exact ⟨j + 1, by omega, by go_num, by rw [HQ.out], bl_trans HBJ.out (bl_alloc (Below.refl _ _) _)⟩
                case measure => simp [intOf]; omega
            · obtain rfl : j = n := by omega
              have HBJ := Lib.hid hbj
              have htake : (xs.take j).any (atB (m : Int) (k : Int)) = takenB xs (m : Int) (k : Int) := by rw [List.take_of_length_le (by omega)]; rfl
              rw [htake]
              clear htake hbj
              rcases htk : takenB xs (m : Int) (k : Int) with _ | _
              · have HTK := Lib.hid htk
                rcases st with _ | ⟨qr, qc, qd⟩
                · rw [nfStep_first htk] at hstep
                  have HST := Lib.hid hstep
                  clear hstep hok htk
                  dsimp only [spR, spC, spD]
                  go_wp2_with (go_at_call 43; refine (l1Abs_any _ _ (by omega) (by omega)).mono ?_; rintro e w' ⟨rfl, rfl⟩)
                  go_roundw
                  case rel => exact ⟨k + 1, by omega, by go_num, by rw [HST.out] <;> rfl, by rw [HST.out] <;> rfl, by rw [HST.out] <;> rfl, bl_trans HB2.out HBJ.out⟩
                  case measure => simp [intOf]; omega
                · obtain ⟨q0, q1, q2⟩ := hok qr qc qd rfl
                  by_cases hlt2 : absI ((m : Int) - row) + absI ((k : Int) - col) < qd
                  · rw [nfStep_less htk hlt2] at hstep
                    have HST := Lib.hid hstep
                    clear hstep hok htk
                    dsimp only [spR, spC, spD]
                    go_wp2_with (go_at_call 43; refine (l1Abs_any _ _ (by omega) (by omega)).mono ?_; rintro e w' ⟨rfl, rfl⟩)
                    go_roundw
                    case rel => exact ⟨k + 1, by omega, by go_num, by rw [HST.out] <;> rfl, by rw [HST.out] <;> rfl, by rw [HST.out] <;> rfl, bl_trans HB2.out HBJ.out⟩
                    case measure => simp [intOf]; omega
                  · rw [nfStep_more htk hlt2] at hstep
                    have HST := Lib.hid hstep
                    clear hstep hok htk
                    dsimp only [spR, spC, spD]
                    go_wp2_with (go_at_call 43; refine (l1Abs_any _ _ (by omega) (by omega)).mono ?_; rintro e w' ⟨rfl, rfl⟩)
                    go_roundw
                    case rel => exact ⟨k + 1, by omega, by go_num, by rw [HST.out] <;> rfl, by rw [HST.out] <;> rfl, by rw [HST.out] <;> rfl, bl_trans HB2.out HBJ.out⟩
                    case measure => simp [intOf]; omega
              · have HTK := Lib.hid htk
                rw [nfStep_taken htk] at hstep
                have HST := Lib.hid hstep
                clear hstep hok htk
                go_wp2_with (go_at_call 43; refine (l1Abs_any _ _ (by omega) (by omega)).mono ?_; rintro e w' ⟨rfl, rfl⟩)
                go_roundw
                case rel => exact ⟨k + 1, by omega, by go_num, by rw [HST.out], by rw [HST.out], by rw [HST.out], bl_trans HB2.out HBJ.out⟩
                case measure => simp [intOf]; omega
        · obtain rfl : k = 10 := by omega
          have HB2 := Lib.hid hb
          have HM := Lib.hid (show 10 * m + 10 = 10 * (m + 1) by omega)
          clear hb
          go_wp2
          go_roundw
          case rel => exact ⟨m + 1, by omega, by go_num, by rw [HM.out], by rw [HM.out], by rw [HM.out], HB2.out⟩
          case measure => simp [intOf]; omega
    · obtain rfl : m = 10 := by omega
      go_wp2
      go_ret3
      exact trip_b rfl rfl rfl (bl_trans HW.out hb)
def nfR (xs : List Box) (row col : Int) : Int := oV (nfB xs row col) (imR (nfTo xs row col 100))
def nfC (xs : List Box) (row col : Int) : Int := oV (nfB xs row col) (imC (nfTo xs row col 100))
theorem specNF_any (A : Option Addr) (n c : Nat) (xs : List Box) (row col : Int) (w : World) (hr : Rd cBox 4 w w.heap.size A n xs) (hn : n ≤ 1048576) (hok : ∀ x ∈ xs, okBox x) (hcap : n ≤ c) :
    Calls Try.prog 23 #[.slice A n c, .int .i64 row, .int .i64 col] w (TripB (nfR xs row col) (nfC xs row col) (nfB xs row col) w) := by
  unfold nfR nfC
  rcases h : nfB xs row col with _ | _
  · exact specNF_no A n c xs row col w hr hn hok hcap h
  · rw [oV_yes rfl, oV_yes rfl]
    first
      | exact implNF_yes A n c xs row col w hr hn hok hcap h
      | (obtain ⟨e1, e2⟩ := nf_same (row := row) (col := col) (nf_all h).1
         rw [← e1, ← e2]
         exact specNF_yes A n c xs row col w hr hn hok hcap h)
theorem implNF_any (A : Option Addr) (n c : Nat) (xs : List Box) (row col : Int) (w : World) (hr : Rd cBox 4 w w.heap.size A n xs) (hn : n ≤ 1048576) (hok : ∀ x ∈ xs, okBox x) (hcap : n ≤ c) :
    Calls Try.prog 24 #[.slice A n c, .int .i64 row, .int .i64 col] w (TripB (nfR xs row col) (nfC xs row col) (nfB xs row col) w) := by
  unfold nfR nfC
  rcases h : nfB xs row col with _ | _
  · exact implNF_no A n c xs row col w hr hn hok hcap h
  · rw [oV_yes rfl, oV_yes rfl]
    first
      | exact implNF_yes A n c xs row col w hr hn hok hcap h
      | (obtain ⟨e1, e2⟩ := nf_same (row := row) (col := col) (nf_all h).1
         rw [← e1, ← e2]
         exact specNF_yes A n c xs row col w hr hn hok hcap h)
set_option maxHeartbeats 1000000 in
theorem lawNearestFree (A : Option Addr) (n c : Nat) (xs : List Box) (row col : Int) (w : World) (hr : Rd cBox 4 w w.heap.size A n xs) (hn : n ≤ maxLen) (hok : ∀ x ∈ xs, okBox x) (_ : I64 row) (_ : I64 col) : Calls Try.prog 7 #[.slice A n c, .int .i64 row, .int .i64 col] w fun e w' => e = .returned (.bool (true)) ∧ Below w.heap.size w w' := by
  have hn' := hn
  unfold maxLen at hn'
  have HN := Lib.hid hn
  have HOK := Lib.hid hok
  have HS := Lib.hid (szBoxS_any A n c _ xs 1048576 w hr (Nat.le_refl _) hn hok (by omega) (by omega))
  clear hn hok
  go_enter Try.func7, Try.ntmps7
  go_wp2_with fail
  refine HS.out.mono ?_
  rintro e w0 ⟨r, rfl, hsz, hb0⟩
  have HSZ := Lib.hid hsz
  have HB0 := Lib.hid hb0
  clear hsz hb0
  by_cases hneg : r < 0
  · go_wp2_with fail
    go_ret
    exact ⟨rfl, HB0.out⟩
  have hn2 : n ≤ 1048576 := by
    rcases HSZ.out with h | h <;> omega
  have HT := Lib.hid (fun (W : World) (h : Below w.heap.size w W) => toBoxS_cap A n c _ xs W (hr.below h) h.size hn2)
  go_wp2_with fail
  refine (HT.out _ HB0.out).mono ?_
  rintro e w1 ⟨A1, rfl, h1, hb⟩
  have HB1 := Lib.hid (bl_trans HB0.out hb)
  clear hb
  go_wp2_with fail
  refine (specNF_any _ _ _ xs row col _ h1.rd hn2 HOK.out (Nat.le_refl _)).mono ?_
  rintro e w2 ⟨rfl, hb⟩
  have HB2 := Lib.hid (bl_trans HB1.out hb)
  clear hb
  go_wp2_with fail
  refine (HT.out _ HB2.out).mono ?_
  rintro e w3 ⟨A3, rfl, h3, hb⟩
  have HB3 := Lib.hid (bl_trans HB2.out hb)
  clear hb
  go_wp2_with fail
  refine (implNF_any _ _ _ xs row col _ h3.rd hn2 HOK.out (Nat.le_refl _)).mono ?_
  rintro e w4 ⟨rfl, hb⟩
  have HB4 := Lib.hid (bl_trans HB3.out hb)
  have H34 := Lib.hid (h3.below hb)
  clear hb h3
  go_wp2_with fail
  refine (HT.out _ HB4.out).mono ?_
  rintro e w5 ⟨A5, rfl, h5, hb⟩
  have HB5 := Lib.hid (bl_trans HB4.out hb)
  have H35 := Lib.hid (H34.out.below hb)
  clear hb
  go_wp2_with fail
  refine (eqBoxS_same _ _ _ _ _ _ _ xs _ H35.out.rd h5.rd (Nat.le_refl _) (Nat.le_refl _) HN.out).mono ?_
  rintro e w6 ⟨rfl, hb6⟩
  go_wp2
  go_ret
  exact ⟨rfl, bl_trans HB5.out hb6⟩
end Go.Proofs.Ytjeehkiebalbmaa
