/-
  spec.DivideByWeights: the contract.
-/
import Derived.Test.YtblgeehdngejpaaDw7
namespace Go.Proofs.Ytblgeehdngejpaa
open Go.RowKit
set_option linter.unusedVariables false

set_option maxHeartbeats 8000000 in
theorem specDW_run (A : Option Addr) (n cp : Nat) (xs : List Int) (T : Int) (w : World) (hr : Rd cI 1 w w.heap.size A n xs) (hn : n ≤ 1048576) (h1 : inB (xs.length : Int) 1 32 = true) (h2 : allIn xs 0 1000000 = true) (h3 : inB T 0 100000 = true) (hB : dvB xs T = !(sumL xs == 0)) :
    Calls Try.prog 4 #[.slice A n cp, .int .i64 T] w (RetS (dvL xs T) (dvB xs T) w) := by
  have hl := hr.1
  rw [hl] at h1
  have hn32 := inB_iff.1 h1
  have hT := inB_iff.1 h3
  have hM := allIn_mem h2
  have hm : n ≤ maxLen := by unfold maxLen; omega
  have H1 := Lib.hid h1
  have H2 := Lib.hid h2
  have H3 := Lib.hid h3
  have HM := Lib.hid hM
  have HB := Lib.hid hB
  have HBD := Lib.hid (sumTo_bd hM)
  have HR := Lib.hid hr
  obtain ⟨i0, hi0, hi1, hi2, hi3⟩ := info_parts infoI
  clear h1 h2 h3 hM hB
  go_enter Try.func4, Try.ntmps4
  go_wp2_with (first | (go_at_call 10; refine (l1In_any _ _ _ _).mono ?_; (first | rw [H1.out] | rw [H3.out]); rintro e w' ⟨rfl, rfl⟩) | (go_at_call 11; refine (l1All_any _ _ _ _ xs _ _ _ hr hm).mono ?_; rw [H2.out]; rintro e w' ⟨rfl, rfl⟩))
  go_loop [6, 33] (fun q i => ∃ k : Nat, k ≤ n ∧ i = .int .i64 k ∧ q = .int .i64 (sumTo xs k)) (fun _ i => n - (intOf i).toNat)
  case atStart => exact ⟨0, Nat.zero_le _, rfl, rfl⟩
  case round =>
    obtain ⟨k, hk, rfl, rfl⟩ := hrel
    by_cases hlt : k < n
    · obtain ⟨b, off, x, rfl, _, hx, hc⟩ := HR.out.atI hlt
      have hs1 := HBD.out k (by omega)
      have hs2 := HM.out x (List.mem_of_getElem? hx)
      have HX := Lib.hid hx
      clear hx
      go_wp2
      go_round
      case rel => exact ⟨k + 1, by omega, by go_num, by rw [sumTo_snoc HX.out]⟩
      case measure => simp [intOf]; omega
    · obtain rfl : n = k := by omega
      have hSe : sumTo xs n = sumL xs := by rw [sumL, hl]
      obtain ⟨S, hSS⟩ : ∃ S, sumL xs = S := ⟨_, rfl⟩
      rw [hSS] at hSe
      have hSB := HBD.out n (by omega)
      rw [hSe] at hSB ⊢
      by_cases hS0 : S = 0
      · subst hS0
        have HE : Hid (dvB xs T = false) := by rw [HB.out, hSS]; rfl
        clear hSS hSe
        go_wp2
        go_ret2
        rw [dvL_no HE.out, HE.out]
        exact rets_nil rfl (by repeat (first | (with_reducible exact Below.refl _ _) | (with_reducible assumption) | (with_reducible refine bl_alloc ?_ _) | (with_reducible refine bl_drew ?_) | (with_reducible refine bl_drewN ?_ _) | ((with_reducible refine bl_set ?_ ?hb _); (case hb => first | (simp; done) | omega | (simp; omega))) | (with_reducible refine bl_trans ?_ (by assumption)))) _ _
      · have HE : Hid (dvB xs T = true) := Lib.hid (by rw [HB.out, hSS]; simp [hS0])
        have hS : 0 < S := by omega
        have HLE := Lib.hid (show dvL xs T = addO (oW xs T S n) (bsW xs T S) (leftW xs T S).toNat by rw [dvL_yes HE.out, hSS, hl])
        have HLB := Lib.hid (left_bd (T := T) hS hSS (by omega))
        have HBB := Lib.hid (bsW_bd hT hS HM.out)
        have HBT := Lib.hid (sumTo_bd (bsW_bd hT hS HM.out))
        clear hSS hSe
        go_wp2
        go_loopw [9, 10, 46] (fun u l i wr => ∃ j : Nat, j ≤ n ∧ i = .int .i64 j ∧ l = .int .i64 (T - sumTo (bsW xs T S) j) ∧ Hid (wr.ownsRow w.heap.size 3 1 u j (((bsW xs T S).take j).map (Value.int .i64))) ∧ Below w.heap.size w wr) (fun _ _ i _ => n - (intOf i).toNat)
        case atStart => exact ⟨0, Nat.zero_le _, rfl, by simp [sumTo], Lib.hid (World.ownsRow_nil _ _ _ _), Below.refl _ _⟩
        case round =>
          obtain ⟨j, hj, rfl, rfl, HO, hbj⟩ := hrel
          have hsz := hbj.size
          have hlb := bsW_len xs T S
          by_cases hlt2 : j < n
          · obtain ⟨b, off, x, rfl, hbB, hx, hc⟩ := (HR.out.below hbj).atI hlt2
            have bx := mul_bd hT (HM.out x (List.mem_of_getElem? hx))
            have HX := Lib.hid (take_snoc (bsW_at (T := T) (S := S) hx))
            have HY := Lib.hid (sumTo_snoc (bsW_at (T := T) (S := S) hx))
            have hsb := HBT.out j (by omega)
            have qb := Int.ediv_le_self S bx.1
            have qb0 : 0 ≤ T * x / S := Int.ediv_nonneg bx.1 (by omega)
            have e1 : IntKind.i64.wrap (T * x) = T * x := IntWalk.i64_in _ (by omega)
            have e2 : (T * x).tdiv S = T * x / S := Int.tdiv_eq_ediv_of_nonneg bx.1
            have e3 : IntKind.i64.wrap (T * x / S) = T * x / S := IntWalk.i64_in _ (by omega)
            have e4 : IntKind.i64.wrap (T - sumTo (bsW xs T S) j - T * x / S) = T - sumTo (bsW xs T S) j - T * x / S := IntWalk.i64_in _ (by omega)
            have BJ := Lib.hid hbj
            clear hx hbj
            go_wp2_with (at_builtin; refine wpList_append_own_at _ rfl _ _ 22 rfl w.heap.size 3 i0 (.int .i64 0) 1 8 Try.underlying22 hi0 hi1 hi2 hi3 rfl (by decide) _ _ _ rfl ((HO.out.alloc _)) ⟨wr.heap.size, 0, none⟩ 1 1 [.int .i64 (T * x / S)] rfl rfl ?yc1 ?yc2 ?yc3 ?yc4 ?yc5 ?_)
            case yc1 => exact cell_one_new _ _ _
            case yc2 => first | rfl | (intro u hu; simp at hu; subst hu; rfl)
            case yc3 => unfold maxLen; omega
            case yc4 => omega
            case yc5 => simp; omega
            intro v1 w3 hown3 hg3 _ hat3
            have HO3 : Hid (w3.ownsRow w.heap.size 3 1 v1 (j + 1) (((bsW xs T S).take (j + 1)).map (Value.int .i64))) := Lib.hid (by rw [HX.out]; simpa using hown3)
            have HB3 := Lib.hid (below_grow BJ.out HO.out hg3 (Nat.le_refl _) hsz)
            clear hown3 hg3 hat3
            go_wp2
            go_roundw
            case rel => exact ⟨j + 1, by omega, by go_num, by rw [HY.out]; congr 1; omega, HO3, HB3.out⟩
            case measure => simp [intOf]; omega
          · obtain rfl : n = j := by omega
            have htk : (bsW xs T S).take n = bsW xs T S := List.take_of_length_le (by rw [hlb]; omega)
            have hsn : sumTo (bsW xs T S) n = sumL (bsW xs T S) := by rw [sumL, hlb, hl]
            have ha := HO.out
            rw [htk] at ha
            obtain ⟨A2, c2, rfl, hw2⟩ := own_wr ha
            obtain ⟨h, rfl, hhb, hhl, _, _⟩ := hw2.2 (by omega)
            have HW2 := Lib.hid hw2
            have HBJ := Lib.hid hbj
            obtain ⟨m, hm0⟩ := Int.eq_ofNat_of_zero_le HLB.out.1
            have hm2 : T - sumTo (bsW xs T S) n = (m : Int) := by rw [hsn]; exact hm0
            have hmn : m < n := by have := HLB.out.2; omega
            obtain ⟨L, hL⟩ : ∃ L, bsW xs T S = L := ⟨_, rfl⟩
            obtain ⟨o, ho⟩ : ∃ o, oW xs T S n = o := ⟨_, rfl⟩
            have HOK := Lib.hid (oW_ok xs T S n)
            have HE2 : Hid (dvL xs T = addO o L m) := Lib.hid (by rw [HLE.out, ho, hL, show leftW xs T S = (m : Int) from hm0, Int.toNat_natCast])
            rw [hm2]
            rw [hL] at HW2 HBB
            rw [ho] at HOK
            obtain ⟨j0, hj0, hj1, hj2, hj3⟩ := info_parts infoB
            obtain ⟨wp, rfl⟩ : ∃ wp : World, wp = wr := ⟨_, rfl⟩
            clear ha hw2 hbj HO htk hsn hm0 hm2 hL ho HLE HLB HBT
            go_wp2_with (at_make; refine wpList_make_full _ rfl _ _ 31 rfl wp.heap.size 4 j0 (.bool false) 1 Try.underlying31 hj0 hj1 hj2 .i64 .i64 n n n rfl rfl rfl rfl (by rw [hj3]; omega) (by unfold maxLen; omega) (Nat.le_refl _) ?_; intro w1 hown hg)
            have hb1 : Below w.heap.size w w1 := HBJ.out.trans (((Below.refl wp.heap.size wp).grown hg (Nat.le_refl _) (by simp)).mono hsz)
            have hbp : Below wp.heap.size wp w1 := (Below.refl wp.heap.size wp).grown hg (Nat.le_refl _) (by simp)
            have hs1 : wp.heap.size < w1.heap.size := (hown.lt _ rfl).2
            have HG1 := Lib.hid (gv_made hown rfl hs1)
            have HB1 := Lib.hid hb1
            have HW1 := Lib.hid (HW2.out.below hbp)
            clear hb1 hbp hown hg HW2 HBJ
            go_loopw [10] (fun l wr => ∃ r : Nat, r ≤ m ∧ l = .int .i64 ((m : Int) - r) ∧ Hid (Wr wr w.heap.size (some ⟨h, 0, none⟩) n (addO o L r)) ∧ Hid (Gv wr wp.heap.size n (gO o r)) ∧ Below w.heap.size w wr) (fun l _ => (intOf l).toNat)
            case atStart => exact ⟨0, Nat.zero_le _, by simp, Lib.hid HW1.out, Lib.hid HG1.out, HB1.out⟩
            case round =>
              obtain ⟨r, hr2, rfl, HWr, HGr, hbr⟩ := hrel
              have hzr := hbr.size
              by_cases hlt3 : r < m
              · have hpos : (0 : Int) < (m : Int) - (r : Int) := by omega
                have HBR := Lib.hid hbr
                obtain ⟨wo, rfl⟩ : ∃ wo : World, wo = wr := ⟨_, rfl⟩
                clear hbr
                go_wp2
                go_loopw [14, 75] (fun bb i wr => ∃ k : Nat, k ≤ n ∧ i = .int .i64 k ∧ bb = .int .i64 (bsT (rmW xs T S) (gO o r) k) ∧ Below wo.heap.size wo wr) (fun _ i _ => n - (intOf i).toNat)
                case atStart => exact ⟨0, Nat.zero_le _, rfl, rfl, Below.refl _ _⟩
                case round =>
                  obtain ⟨k, hk, rfl, rfl, hbk⟩ := hrel
                  have HBK := Lib.hid hbk
                  by_cases hlt4 : k < n
                  · have hG := HGr.out.below hbk
                    have gk := hG.1 k hlt4
                    obtain ⟨b, off, x, rfl, hbB, hx, hc⟩ := (HR.out.below (HBR.out.trans (hbk.mono hzr))).atI hlt4
                    have HX := Lib.hid hx
                    have k0 : (0 : Int) ≤ (k : Int) := by omega
                    have k1 : (k : Int) < (n : Int) := by omega
                    clear hbk hG
                    rcases hgk : gO o r k with _ | _
                    · rw [hgk] at gk
                      have HGK := Lib.hid hgk
                      rcases bsT_cases (rmW xs T S) (gO o r) k with ⟨hb0, _⟩ | ⟨p, hp, hb0, _, _⟩
                      · have HN := Lib.hid (bsT_neg hgk hb0)
                        rw [hb0]
                        clear hgk hb0 hx
                        go_wp2_with fail
                        refine wp_region_noPanic ?_
                        refine wp_region_held_drew (S := (fun w' => w'.cell? ⟨wp.heap.size, k, none⟩ = some (.bool false))) (by kernel_rfl) (by (try dsimp only); go_keep) (fun hHeld => ?_)
                        refine take_of (some 80) (i := 0) (v := ?vq1_0) rfl rfl (by kernel_rfl) (by kernel_rfl) (by kernel_rfl) (fun _ _ _ h => h) (Or.inl ⟨by rfl, ?hyq1_0⟩) (by assumption) ?restq1_0
                        case hyq1_0 => (intro w hSw; (try dsimp only at hSw); go_simp; try with_reducible rfl)
                        try simp only [Act.put, List.setIfInBounds_toArray, List.set_cons_zero, List.set_cons_succ]
                        refine take_of (some 81) (i := 1) (v := ?vq1_1) rfl rfl (by kernel_rfl) (by kernel_rfl) (by kernel_rfl) (fun _ _ _ h => h) (Or.inl ⟨by rfl, ?hyq1_1⟩) (by assumption) ?restq1_1
                        case hyq1_1 => (intro w hSw; (try dsimp only at hSw); go_simp; try with_reducible rfl)
                        try simp only [Act.put, List.setIfInBounds_toArray, List.set_cons_zero, List.set_cons_succ]
                        refine take_of (some 82) (i := 2) (v := ?vq1_2) rfl rfl (by kernel_rfl) (by kernel_rfl) (by kernel_rfl) (fun _ _ _ h => h) (Or.inl ⟨by rfl, ?hyq1_2⟩) (by assumption) ?restq1_2
                        case hyq1_2 => (intro w hSw; (try dsimp only at hSw); go_simp; try with_reducible rfl)
                        try simp only [Act.put, List.setIfInBounds_toArray, List.set_cons_zero, List.set_cons_succ]
                        refine take_of (some 83) (i := 3) (v := ?vq1_3) rfl rfl (by kernel_rfl) (by kernel_rfl) (by kernel_rfl) (fun _ _ _ h => h) (Or.inl ⟨by rfl, ?hyq1_3⟩) (by assumption) ?restq1_3
                        case hyq1_3 => (intro w hSw; (try dsimp only at hSw); go_simp; try with_reducible rfl)
                        try simp only [Act.put, List.setIfInBounds_toArray, List.set_cons_zero, List.set_cons_succ]
                        refine take_of (some 84) (i := 4) (v := ?vq1_4) rfl rfl (by kernel_rfl) (by kernel_rfl) (by kernel_rfl) (fun _ _ _ h => h) (Or.inl ⟨by rfl, ?hyq1_4⟩) (by assumption) ?restq1_4
                        case hyq1_4 => (intro w hSw; (try dsimp only at hSw); go_simp; try with_reducible rfl)
                        try simp only [Act.put, List.setIfInBounds_toArray, List.set_cons_zero, List.set_cons_succ]
                        refine take_of (some 85) (i := 5) (v := ?vq1_5) rfl rfl (by kernel_rfl) (by kernel_rfl) (by kernel_rfl) (fun _ _ _ h => h) (Or.inl ⟨by rfl, ?hyq1_5⟩) (by assumption) ?restq1_5
                        case hyq1_5 => (intro w hSw; (try dsimp only at hSw); go_simp; try with_reducible rfl)
                        try simp only [Act.put, List.setIfInBounds_toArray, List.set_cons_zero, List.set_cons_succ]
                        refine take_of (some 86) (i := 6) (v := ?vq1_6) rfl rfl (by kernel_rfl) (by kernel_rfl) (by kernel_rfl) (fun _ _ _ h => h) (Or.inl ⟨by rfl, ?hyq1_6⟩) (by assumption) ?restq1_6
                        case hyq1_6 => (intro w hSw; (try dsimp only at hSw); go_simp; try with_reducible rfl)
                        try simp only [Act.put, List.setIfInBounds_toArray, List.set_cons_zero, List.set_cons_succ]
                        refine take_of (some 87) (i := 7) (v := ?vq1_7) rfl rfl (by kernel_rfl) (by kernel_rfl) (by kernel_rfl) (fun _ _ _ h => h) (Or.inl ⟨by rfl, ?hyq1_7⟩) (by assumption) ?restq1_7
                        case hyq1_7 => (intro w hSw; (try dsimp only at hSw); go_simp; try with_reducible rfl)
                        try simp only [Act.put, List.setIfInBounds_toArray, List.set_cons_zero, List.set_cons_succ]
                        refine take_of (some 88) (i := 8) (v := ?vq1_8) rfl rfl (by kernel_rfl) (by kernel_rfl) (by kernel_rfl) (fun _ _ _ h => h) (Or.inl ⟨by rfl, ?hyq1_8⟩) (by assumption) ?restq1_8
                        case hyq1_8 => (intro w hSw; (try dsimp only at hSw); go_simp; try with_reducible rfl)
                        try simp only [Act.put, List.setIfInBounds_toArray, List.set_cons_zero, List.set_cons_succ]
                        refine take_of (some 89) (i := 9) (v := undef) rfl rfl (by kernel_rfl) (by kernel_rfl) (by kernel_rfl) (fun _ _ _ h => h) (Or.inr ⟨by rfl, rfl⟩) (by assumption) ?_
                        try simp only [Act.put, List.setIfInBounds_toArray, List.set_cons_zero, List.set_cons_succ]
                        refine take_of (some 90) (i := 10) (v := undef) rfl rfl (by kernel_rfl) (by kernel_rfl) (by kernel_rfl) (fun _ _ _ h => h) (Or.inr ⟨by rfl, rfl⟩) (by assumption) ?_
                        try simp only [Act.put, List.setIfInBounds_toArray, List.set_cons_zero, List.set_cons_succ]
                        refine take_of (some 91) (i := 11) (v := undef) rfl rfl (by kernel_rfl) (by kernel_rfl) (by kernel_rfl) (fun _ _ _ h => h) (Or.inr ⟨by rfl, rfl⟩) (by assumption) ?_
                        try simp only [Act.put, List.setIfInBounds_toArray, List.set_cons_zero, List.set_cons_succ]
                        refine take_of (some 92) (i := 12) (v := undef) rfl rfl (by kernel_rfl) (by kernel_rfl) (by kernel_rfl) (fun _ _ _ h => h) (Or.inr ⟨by rfl, rfl⟩) (by assumption) ?_
                        try simp only [Act.put, List.setIfInBounds_toArray, List.set_cons_zero, List.set_cons_succ]
                        refine take_of (some 93) (i := 13) (v := undef) rfl rfl (by kernel_rfl) (by kernel_rfl) (by kernel_rfl) (fun _ _ _ h => h) (Or.inr ⟨by rfl, rfl⟩) (by assumption) ?_
                        try simp only [Act.put, List.setIfInBounds_toArray, List.set_cons_zero, List.set_cons_succ]
                        refine take_of (some 94) (i := 14) (v := undef) rfl rfl (by kernel_rfl) (by kernel_rfl) (by kernel_rfl) (fun _ _ _ h => h) (Or.inr ⟨by rfl, rfl⟩) (by assumption) ?_
                        try simp only [Act.put, List.setIfInBounds_toArray, List.set_cons_zero, List.set_cons_succ]
                        refine take_of (some 95) (i := 15) (v := undef) rfl rfl (by kernel_rfl) (by kernel_rfl) (by kernel_rfl) (fun _ _ _ h => h) (Or.inr ⟨by rfl, rfl⟩) (by assumption) ?_
                        try simp only [Act.put, List.setIfInBounds_toArray, List.set_cons_zero, List.set_cons_succ]
                        refine take_of (some 96) (i := 16) (v := undef) rfl rfl (by kernel_rfl) (by kernel_rfl) (by kernel_rfl) (fun _ _ _ h => h) (Or.inr ⟨by rfl, rfl⟩) (by assumption) ?_
                        try simp only [Act.put, List.setIfInBounds_toArray, List.set_cons_zero, List.set_cons_succ]
                        refine take_of (some 97) (i := 17) (v := undef) rfl rfl (by kernel_rfl) (by kernel_rfl) (by kernel_rfl) (fun _ _ _ h => h) (Or.inr ⟨by rfl, rfl⟩) (by assumption) ?_
                        try simp only [Act.put, List.setIfInBounds_toArray, List.set_cons_zero, List.set_cons_succ]
                        refine take_of (some 98) (i := 18) (v := undef) rfl rfl (by kernel_rfl) (by kernel_rfl) (by kernel_rfl) (fun _ _ _ h => h) (Or.inr ⟨by rfl, rfl⟩) (by assumption) ?_
                        try simp only [Act.put, List.setIfInBounds_toArray, List.set_cons_zero, List.set_cons_succ]
                        refine take_of (some 99) (i := 19) (v := undef) rfl rfl (by kernel_rfl) (by kernel_rfl) (by kernel_rfl) (fun _ _ _ h => h) (Or.inr ⟨by rfl, rfl⟩) (by assumption) ?_
                        try simp only [Act.put, List.setIfInBounds_toArray, List.set_cons_zero, List.set_cons_succ]
                        refine take_of (some 100) (i := 20) (v := undef) rfl rfl (by kernel_rfl) (by kernel_rfl) (by kernel_rfl) (fun _ _ _ h => h) (Or.inr ⟨by rfl, rfl⟩) (by assumption) ?_
                        try simp only [Act.put, List.setIfInBounds_toArray, List.set_cons_zero, List.set_cons_succ]
                        refine take_of (some 101) (i := 21) (v := undef) rfl rfl (by kernel_rfl) (by kernel_rfl) (by kernel_rfl) (fun _ _ _ h => h) (Or.inr ⟨by rfl, rfl⟩) (by assumption) ?_
                        try simp only [Act.put, List.setIfInBounds_toArray, List.set_cons_zero, List.set_cons_succ]
                        refine take_of (some 102) (i := 22) (v := undef) rfl rfl (by kernel_rfl) (by kernel_rfl) (by kernel_rfl) (fun _ _ _ h => h) (Or.inr ⟨by rfl, rfl⟩) (by assumption) ?_
                        try simp only [Act.put, List.setIfInBounds_toArray, List.set_cons_zero, List.set_cons_succ]
                        refine take_of (some 103) (i := 23) (v := ?vq1_23) rfl rfl (by kernel_rfl) (by kernel_rfl) (by kernel_rfl) (fun _ _ _ h => h) (Or.inl ⟨by rfl, ?hyq1_23⟩) (by assumption) ?restq1_23
                        case hyq1_23 => (intro w hSw; (try dsimp only at hSw); go_simp; try with_reducible rfl)
                        try simp only [Act.put, List.setIfInBounds_toArray, List.set_cons_zero, List.set_cons_succ]
                        refine take_of (some 104) (i := 24) (v := ?vq1_24) rfl rfl (by kernel_rfl) (by kernel_rfl) (by kernel_rfl) (fun _ _ _ h => h) (Or.inl ⟨by rfl, ?hyq1_24⟩) (by assumption) ?restq1_24
                        case hyq1_24 => (intro w hSw; (try dsimp only at hSw); go_simp; try with_reducible rfl)
                        try simp only [Act.put, List.setIfInBounds_toArray, List.set_cons_zero, List.set_cons_succ]
                        refine wpAnyH_done (by kernel_rfl) ?_ _
                        refine NoPanic.normal ?_
                        go_wp2
                        go_roundw
                        case rel => exact ⟨k + 1, by omega, by go_num, by rw [HN.out], bl_drew HBK.out⟩
                        case measure => simp [intOf]; omega
                      · obtain ⟨b', off', y, e, _, hy, hcy⟩ := (HR.out.below (HBR.out.trans (HBK.out.mono hzr))).atI (show p < n by omega)
                        obtain ⟨rfl, rfl⟩ : b = b' ∧ off = off' := by simpa using e
                        have bx := mul_bd hT (HM.out x (List.mem_of_getElem? hx))
                        have by' := mul_bd hT (HM.out y (List.mem_of_getElem? hy))
                        have f1 : rmW xs T S k = T * x % S := rmW_at hx
                        have f2 : rmW xs T S p = T * y % S := rmW_at hy
                        have e1 : IntKind.i64.wrap (T * x) = T * x := IntWalk.i64_in _ (by omega)
                        have e2 : IntKind.i64.wrap (T * y) = T * y := IntWalk.i64_in _ (by omega)
                        have t1 : (T * x).tmod S = T * x % S := Int.tmod_eq_emod_of_nonneg bx.1
                        have t2 : (T * y).tmod S = T * y % S := Int.tmod_eq_emod_of_nonneg by'.1
                        have p0 : (0 : Int) ≤ (p : Int) := by omega
                        have p1 : (p : Int) < (n : Int) := by omega
                        have pn : ¬ (p : Int) < 0 := by omega
                        by_cases hf : T * y % S < T * x % S
                        · have HN := Lib.hid (bsT_gt hgk hb0 (by rw [f1, f2]; exact hf))
                          rw [hb0]
                          clear hgk hb0 hx hy e f1 f2
                          go_wp2_with fail
                          refine wp_region_noPanic ?_
                          refine wp_region_held_drew (S := (fun w' => w'.cell? ⟨wp.heap.size, k, none⟩ = some (.bool false) ∧ w'.cell? ⟨b, off + p, none⟩ = some (.int .i64 y))) (by kernel_rfl) (by (try dsimp only); go_keep) (fun hHeld => ?_)
                          refine take_of (some 80) (i := 0) (v := ?vq2_0) rfl rfl (by kernel_rfl) (by kernel_rfl) (by kernel_rfl) (fun _ _ _ h => h) (Or.inl ⟨by rfl, ?hyq2_0⟩) (by assumption) ?restq2_0
                          case hyq2_0 => (intro w hSw; (try dsimp only at hSw); go_simp; try with_reducible rfl)
                          try simp only [Act.put, List.setIfInBounds_toArray, List.set_cons_zero, List.set_cons_succ]
                          refine take_of (some 81) (i := 1) (v := ?vq2_1) rfl rfl (by kernel_rfl) (by kernel_rfl) (by kernel_rfl) (fun _ _ _ h => h) (Or.inl ⟨by rfl, ?hyq2_1⟩) (by assumption) ?restq2_1
                          case hyq2_1 => (intro w hSw; (try dsimp only at hSw); go_simp; try with_reducible rfl)
                          try simp only [Act.put, List.setIfInBounds_toArray, List.set_cons_zero, List.set_cons_succ]
                          refine take_of (some 82) (i := 2) (v := ?vq2_2) rfl rfl (by kernel_rfl) (by kernel_rfl) (by kernel_rfl) (fun _ _ _ h => h) (Or.inl ⟨by rfl, ?hyq2_2⟩) (by assumption) ?restq2_2
                          case hyq2_2 => (intro w hSw; (try dsimp only at hSw); go_simp; try with_reducible rfl)
                          try simp only [Act.put, List.setIfInBounds_toArray, List.set_cons_zero, List.set_cons_succ]
                          refine take_of (some 83) (i := 3) (v := ?vq2_3) rfl rfl (by kernel_rfl) (by kernel_rfl) (by kernel_rfl) (fun _ _ _ h => h) (Or.inl ⟨by rfl, ?hyq2_3⟩) (by assumption) ?restq2_3
                          case hyq2_3 => (intro w hSw; (try dsimp only at hSw); go_simp; try with_reducible rfl)
                          try simp only [Act.put, List.setIfInBounds_toArray, List.set_cons_zero, List.set_cons_succ]
                          refine take_of (some 84) (i := 4) (v := ?vq2_4) rfl rfl (by kernel_rfl) (by kernel_rfl) (by kernel_rfl) (fun _ _ _ h => h) (Or.inl ⟨by rfl, ?hyq2_4⟩) (by assumption) ?restq2_4
                          case hyq2_4 => (intro w hSw; (try dsimp only at hSw); go_simp; try with_reducible rfl)
                          try simp only [Act.put, List.setIfInBounds_toArray, List.set_cons_zero, List.set_cons_succ]
                          refine take_of (some 85) (i := 5) (v := ?vq2_5) rfl rfl (by kernel_rfl) (by kernel_rfl) (by kernel_rfl) (fun _ _ _ h => h) (Or.inl ⟨by rfl, ?hyq2_5⟩) (by assumption) ?restq2_5
                          case hyq2_5 => (intro w hSw; (try dsimp only at hSw); go_simp; try with_reducible rfl)
                          try simp only [Act.put, List.setIfInBounds_toArray, List.set_cons_zero, List.set_cons_succ]
                          refine take_of (some 86) (i := 6) (v := ?vq2_6) rfl rfl (by kernel_rfl) (by kernel_rfl) (by kernel_rfl) (fun _ _ _ h => h) (Or.inl ⟨by rfl, ?hyq2_6⟩) (by assumption) ?restq2_6
                          case hyq2_6 => (intro w hSw; (try dsimp only at hSw); go_simp; try with_reducible rfl)
                          try simp only [Act.put, List.setIfInBounds_toArray, List.set_cons_zero, List.set_cons_succ]
                          refine take_of (some 87) (i := 7) (v := ?vq2_7) rfl rfl (by kernel_rfl) (by kernel_rfl) (by kernel_rfl) (fun _ _ _ h => h) (Or.inl ⟨by rfl, ?hyq2_7⟩) (by assumption) ?restq2_7
                          case hyq2_7 => (intro w hSw; (try dsimp only at hSw); go_simp; try with_reducible rfl)
                          try simp only [Act.put, List.setIfInBounds_toArray, List.set_cons_zero, List.set_cons_succ]
                          refine take_of (some 88) (i := 8) (v := ?vq2_8) rfl rfl (by kernel_rfl) (by kernel_rfl) (by kernel_rfl) (fun _ _ _ h => h) (Or.inl ⟨by rfl, ?hyq2_8⟩) (by assumption) ?restq2_8
                          case hyq2_8 => (intro w hSw; (try dsimp only at hSw); go_simp; try with_reducible rfl)
                          try simp only [Act.put, List.setIfInBounds_toArray, List.set_cons_zero, List.set_cons_succ]
                          refine take_of (some 89) (i := 9) (v := ?vq2_9) rfl rfl (by kernel_rfl) (by kernel_rfl) (by kernel_rfl) (fun _ _ _ h => h) (Or.inl ⟨by rfl, ?hyq2_9⟩) (by assumption) ?restq2_9
                          case hyq2_9 => (intro w hSw; (try dsimp only at hSw); go_simp; try with_reducible rfl)
                          try simp only [Act.put, List.setIfInBounds_toArray, List.set_cons_zero, List.set_cons_succ]
                          refine take_of (some 90) (i := 10) (v := ?vq2_10) rfl rfl (by kernel_rfl) (by kernel_rfl) (by kernel_rfl) (fun _ _ _ h => h) (Or.inl ⟨by rfl, ?hyq2_10⟩) (by assumption) ?restq2_10
                          case hyq2_10 => (intro w hSw; (try dsimp only at hSw); go_simp; try with_reducible rfl)
                          try simp only [Act.put, List.setIfInBounds_toArray, List.set_cons_zero, List.set_cons_succ]
                          refine take_of (some 91) (i := 11) (v := ?vq2_11) rfl rfl (by kernel_rfl) (by kernel_rfl) (by kernel_rfl) (fun _ _ _ h => h) (Or.inl ⟨by rfl, ?hyq2_11⟩) (by assumption) ?restq2_11
                          case hyq2_11 => (intro w hSw; (try dsimp only at hSw); go_simp; try with_reducible rfl)
                          try simp only [Act.put, List.setIfInBounds_toArray, List.set_cons_zero, List.set_cons_succ]
                          refine take_of (some 92) (i := 12) (v := ?vq2_12) rfl rfl (by kernel_rfl) (by kernel_rfl) (by kernel_rfl) (fun _ _ _ h => h) (Or.inl ⟨by rfl, ?hyq2_12⟩) (by assumption) ?restq2_12
                          case hyq2_12 => (intro w hSw; (try dsimp only at hSw); go_simp; try with_reducible rfl)
                          try simp only [Act.put, List.setIfInBounds_toArray, List.set_cons_zero, List.set_cons_succ]
                          refine take_of (some 93) (i := 13) (v := ?vq2_13) rfl rfl (by kernel_rfl) (by kernel_rfl) (by kernel_rfl) (fun _ _ _ h => h) (Or.inl ⟨by rfl, ?hyq2_13⟩) (by assumption) ?restq2_13
                          case hyq2_13 => (intro w hSw; (try dsimp only at hSw); go_simp; try with_reducible rfl)
                          try simp only [Act.put, List.setIfInBounds_toArray, List.set_cons_zero, List.set_cons_succ]
                          refine take_of (some 94) (i := 14) (v := ?vq2_14) rfl rfl (by kernel_rfl) (by kernel_rfl) (by kernel_rfl) (fun _ _ _ h => h) (Or.inl ⟨by rfl, ?hyq2_14⟩) (by assumption) ?restq2_14
                          case hyq2_14 => (intro w hSw; (try dsimp only at hSw); go_simp; try with_reducible rfl)
                          try simp only [Act.put, List.setIfInBounds_toArray, List.set_cons_zero, List.set_cons_succ]
                          refine take_of (some 95) (i := 15) (v := ?vq2_15) rfl rfl (by kernel_rfl) (by kernel_rfl) (by kernel_rfl) (fun _ _ _ h => h) (Or.inl ⟨by rfl, ?hyq2_15⟩) (by assumption) ?restq2_15
                          case hyq2_15 => (intro w hSw; (try dsimp only at hSw); go_simp; try with_reducible rfl)
                          try simp only [Act.put, List.setIfInBounds_toArray, List.set_cons_zero, List.set_cons_succ]
                          refine take_of (some 96) (i := 16) (v := ?vq2_16) rfl rfl (by kernel_rfl) (by kernel_rfl) (by kernel_rfl) (fun _ _ _ h => h) (Or.inl ⟨by rfl, ?hyq2_16⟩) (by assumption) ?restq2_16
                          case hyq2_16 => (intro w hSw; (try dsimp only at hSw); go_simp; try with_reducible rfl)
                          try simp only [Act.put, List.setIfInBounds_toArray, List.set_cons_zero, List.set_cons_succ]
                          refine take_of (some 97) (i := 17) (v := ?vq2_17) rfl rfl (by kernel_rfl) (by kernel_rfl) (by kernel_rfl) (fun _ _ _ h => h) (Or.inl ⟨by rfl, ?hyq2_17⟩) (by assumption) ?restq2_17
                          case hyq2_17 => (intro w hSw; (try dsimp only at hSw); go_simp; try with_reducible rfl)
                          try simp only [Act.put, List.setIfInBounds_toArray, List.set_cons_zero, List.set_cons_succ]
                          refine take_of (some 98) (i := 18) (v := ?vq2_18) rfl rfl (by kernel_rfl) (by kernel_rfl) (by kernel_rfl) (fun _ _ _ h => h) (Or.inl ⟨by rfl, ?hyq2_18⟩) (by assumption) ?restq2_18
                          case hyq2_18 => (intro w hSw; (try dsimp only at hSw); go_simp; try with_reducible rfl)
                          try simp only [Act.put, List.setIfInBounds_toArray, List.set_cons_zero, List.set_cons_succ]
                          refine take_of (some 99) (i := 19) (v := ?vq2_19) rfl rfl (by kernel_rfl) (by kernel_rfl) (by kernel_rfl) (fun _ _ _ h => h) (Or.inl ⟨by rfl, ?hyq2_19⟩) (by assumption) ?restq2_19
                          case hyq2_19 => (intro w hSw; (try dsimp only at hSw); go_simp; try with_reducible rfl)
                          try simp only [Act.put, List.setIfInBounds_toArray, List.set_cons_zero, List.set_cons_succ]
                          refine take_of (some 100) (i := 20) (v := ?vq2_20) rfl rfl (by kernel_rfl) (by kernel_rfl) (by kernel_rfl) (fun _ _ _ h => h) (Or.inl ⟨by rfl, ?hyq2_20⟩) (by assumption) ?restq2_20
                          case hyq2_20 => (intro w hSw; (try dsimp only at hSw); go_simp; try with_reducible rfl)
                          try simp only [Act.put, List.setIfInBounds_toArray, List.set_cons_zero, List.set_cons_succ]
                          refine take_of (some 101) (i := 21) (v := ?vq2_21) rfl rfl (by kernel_rfl) (by kernel_rfl) (by kernel_rfl) (fun _ _ _ h => h) (Or.inl ⟨by rfl, ?hyq2_21⟩) (by assumption) ?restq2_21
                          case hyq2_21 => (intro w hSw; (try dsimp only at hSw); go_simp; try with_reducible rfl)
                          try simp only [Act.put, List.setIfInBounds_toArray, List.set_cons_zero, List.set_cons_succ]
                          refine take_of (some 102) (i := 22) (v := ?vq2_22) rfl rfl (by kernel_rfl) (by kernel_rfl) (by kernel_rfl) (fun _ _ _ h => h) (Or.inl ⟨by rfl, ?hyq2_22⟩) (by assumption) ?restq2_22
                          case hyq2_22 => (intro w hSw; (try dsimp only at hSw); go_simp; try with_reducible rfl)
                          try simp only [Act.put, List.setIfInBounds_toArray, List.set_cons_zero, List.set_cons_succ]
                          refine take_of (some 103) (i := 23) (v := ?vq2_23) rfl rfl (by kernel_rfl) (by kernel_rfl) (by kernel_rfl) (fun _ _ _ h => h) (Or.inl ⟨by rfl, ?hyq2_23⟩) (by assumption) ?restq2_23
                          case hyq2_23 => (intro w hSw; (try dsimp only at hSw); go_simp; try with_reducible rfl)
                          try simp only [Act.put, List.setIfInBounds_toArray, List.set_cons_zero, List.set_cons_succ]
                          refine take_of (some 104) (i := 24) (v := ?vq2_24) rfl rfl (by kernel_rfl) (by kernel_rfl) (by kernel_rfl) (fun _ _ _ h => h) (Or.inl ⟨by rfl, ?hyq2_24⟩) (by assumption) ?restq2_24
                          case hyq2_24 => (intro w hSw; (try dsimp only at hSw); go_simp; try with_reducible rfl)
                          try simp only [Act.put, List.setIfInBounds_toArray, List.set_cons_zero, List.set_cons_succ]
                          refine wpAnyH_done (by kernel_rfl) ?_ _
                          refine NoPanic.normal ?_
                          go_wp2
                          go_roundw
                          case rel => exact ⟨k + 1, by omega, by go_num, by rw [HN.out], bl_drew HBK.out⟩
                          case measure => simp [intOf]; omega
                        · have HN := Lib.hid (bsT_le hgk hb0 (by rw [f1, f2]; exact hf))
                          rw [hb0]
                          clear hgk hb0 hx hy e f1 f2
                          go_wp2_with fail
                          refine wp_region_noPanic ?_
                          refine wp_region_held_drew (S := (fun w' => w'.cell? ⟨wp.heap.size, k, none⟩ = some (.bool false) ∧ w'.cell? ⟨b, off + p, none⟩ = some (.int .i64 y))) (by kernel_rfl) (by (try dsimp only); go_keep) (fun hHeld => ?_)
                          refine take_of (some 80) (i := 0) (v := ?vq3_0) rfl rfl (by kernel_rfl) (by kernel_rfl) (by kernel_rfl) (fun _ _ _ h => h) (Or.inl ⟨by rfl, ?hyq3_0⟩) (by assumption) ?restq3_0
                          case hyq3_0 => (intro w hSw; (try dsimp only at hSw); go_simp; try with_reducible rfl)
                          try simp only [Act.put, List.setIfInBounds_toArray, List.set_cons_zero, List.set_cons_succ]
                          refine take_of (some 81) (i := 1) (v := ?vq3_1) rfl rfl (by kernel_rfl) (by kernel_rfl) (by kernel_rfl) (fun _ _ _ h => h) (Or.inl ⟨by rfl, ?hyq3_1⟩) (by assumption) ?restq3_1
                          case hyq3_1 => (intro w hSw; (try dsimp only at hSw); go_simp; try with_reducible rfl)
                          try simp only [Act.put, List.setIfInBounds_toArray, List.set_cons_zero, List.set_cons_succ]
                          refine take_of (some 82) (i := 2) (v := ?vq3_2) rfl rfl (by kernel_rfl) (by kernel_rfl) (by kernel_rfl) (fun _ _ _ h => h) (Or.inl ⟨by rfl, ?hyq3_2⟩) (by assumption) ?restq3_2
                          case hyq3_2 => (intro w hSw; (try dsimp only at hSw); go_simp; try with_reducible rfl)
                          try simp only [Act.put, List.setIfInBounds_toArray, List.set_cons_zero, List.set_cons_succ]
                          refine take_of (some 83) (i := 3) (v := ?vq3_3) rfl rfl (by kernel_rfl) (by kernel_rfl) (by kernel_rfl) (fun _ _ _ h => h) (Or.inl ⟨by rfl, ?hyq3_3⟩) (by assumption) ?restq3_3
                          case hyq3_3 => (intro w hSw; (try dsimp only at hSw); go_simp; try with_reducible rfl)
                          try simp only [Act.put, List.setIfInBounds_toArray, List.set_cons_zero, List.set_cons_succ]
                          refine take_of (some 84) (i := 4) (v := ?vq3_4) rfl rfl (by kernel_rfl) (by kernel_rfl) (by kernel_rfl) (fun _ _ _ h => h) (Or.inl ⟨by rfl, ?hyq3_4⟩) (by assumption) ?restq3_4
                          case hyq3_4 => (intro w hSw; (try dsimp only at hSw); go_simp; try with_reducible rfl)
                          try simp only [Act.put, List.setIfInBounds_toArray, List.set_cons_zero, List.set_cons_succ]
                          refine take_of (some 85) (i := 5) (v := ?vq3_5) rfl rfl (by kernel_rfl) (by kernel_rfl) (by kernel_rfl) (fun _ _ _ h => h) (Or.inl ⟨by rfl, ?hyq3_5⟩) (by assumption) ?restq3_5
                          case hyq3_5 => (intro w hSw; (try dsimp only at hSw); go_simp; try with_reducible rfl)
                          try simp only [Act.put, List.setIfInBounds_toArray, List.set_cons_zero, List.set_cons_succ]
                          refine take_of (some 86) (i := 6) (v := ?vq3_6) rfl rfl (by kernel_rfl) (by kernel_rfl) (by kernel_rfl) (fun _ _ _ h => h) (Or.inl ⟨by rfl, ?hyq3_6⟩) (by assumption) ?restq3_6
                          case hyq3_6 => (intro w hSw; (try dsimp only at hSw); go_simp; try with_reducible rfl)
                          try simp only [Act.put, List.setIfInBounds_toArray, List.set_cons_zero, List.set_cons_succ]
                          refine take_of (some 87) (i := 7) (v := ?vq3_7) rfl rfl (by kernel_rfl) (by kernel_rfl) (by kernel_rfl) (fun _ _ _ h => h) (Or.inl ⟨by rfl, ?hyq3_7⟩) (by assumption) ?restq3_7
                          case hyq3_7 => (intro w hSw; (try dsimp only at hSw); go_simp; try with_reducible rfl)
                          try simp only [Act.put, List.setIfInBounds_toArray, List.set_cons_zero, List.set_cons_succ]
                          refine take_of (some 88) (i := 8) (v := ?vq3_8) rfl rfl (by kernel_rfl) (by kernel_rfl) (by kernel_rfl) (fun _ _ _ h => h) (Or.inl ⟨by rfl, ?hyq3_8⟩) (by assumption) ?restq3_8
                          case hyq3_8 => (intro w hSw; (try dsimp only at hSw); go_simp; try with_reducible rfl)
                          try simp only [Act.put, List.setIfInBounds_toArray, List.set_cons_zero, List.set_cons_succ]
                          refine take_of (some 89) (i := 9) (v := ?vq3_9) rfl rfl (by kernel_rfl) (by kernel_rfl) (by kernel_rfl) (fun _ _ _ h => h) (Or.inl ⟨by rfl, ?hyq3_9⟩) (by assumption) ?restq3_9
                          case hyq3_9 => (intro w hSw; (try dsimp only at hSw); go_simp; try with_reducible rfl)
                          try simp only [Act.put, List.setIfInBounds_toArray, List.set_cons_zero, List.set_cons_succ]
                          refine take_of (some 90) (i := 10) (v := ?vq3_10) rfl rfl (by kernel_rfl) (by kernel_rfl) (by kernel_rfl) (fun _ _ _ h => h) (Or.inl ⟨by rfl, ?hyq3_10⟩) (by assumption) ?restq3_10
                          case hyq3_10 => (intro w hSw; (try dsimp only at hSw); go_simp; try with_reducible rfl)
                          try simp only [Act.put, List.setIfInBounds_toArray, List.set_cons_zero, List.set_cons_succ]
                          refine take_of (some 91) (i := 11) (v := ?vq3_11) rfl rfl (by kernel_rfl) (by kernel_rfl) (by kernel_rfl) (fun _ _ _ h => h) (Or.inl ⟨by rfl, ?hyq3_11⟩) (by assumption) ?restq3_11
                          case hyq3_11 => (intro w hSw; (try dsimp only at hSw); go_simp; try with_reducible rfl)
                          try simp only [Act.put, List.setIfInBounds_toArray, List.set_cons_zero, List.set_cons_succ]
                          refine take_of (some 92) (i := 12) (v := ?vq3_12) rfl rfl (by kernel_rfl) (by kernel_rfl) (by kernel_rfl) (fun _ _ _ h => h) (Or.inl ⟨by rfl, ?hyq3_12⟩) (by assumption) ?restq3_12
                          case hyq3_12 => (intro w hSw; (try dsimp only at hSw); go_simp; try with_reducible rfl)
                          try simp only [Act.put, List.setIfInBounds_toArray, List.set_cons_zero, List.set_cons_succ]
                          refine take_of (some 93) (i := 13) (v := ?vq3_13) rfl rfl (by kernel_rfl) (by kernel_rfl) (by kernel_rfl) (fun _ _ _ h => h) (Or.inl ⟨by rfl, ?hyq3_13⟩) (by assumption) ?restq3_13
                          case hyq3_13 => (intro w hSw; (try dsimp only at hSw); go_simp; try with_reducible rfl)
                          try simp only [Act.put, List.setIfInBounds_toArray, List.set_cons_zero, List.set_cons_succ]
                          refine take_of (some 94) (i := 14) (v := ?vq3_14) rfl rfl (by kernel_rfl) (by kernel_rfl) (by kernel_rfl) (fun _ _ _ h => h) (Or.inl ⟨by rfl, ?hyq3_14⟩) (by assumption) ?restq3_14
                          case hyq3_14 => (intro w hSw; (try dsimp only at hSw); go_simp; try with_reducible rfl)
                          try simp only [Act.put, List.setIfInBounds_toArray, List.set_cons_zero, List.set_cons_succ]
                          refine take_of (some 95) (i := 15) (v := ?vq3_15) rfl rfl (by kernel_rfl) (by kernel_rfl) (by kernel_rfl) (fun _ _ _ h => h) (Or.inl ⟨by rfl, ?hyq3_15⟩) (by assumption) ?restq3_15
                          case hyq3_15 => (intro w hSw; (try dsimp only at hSw); go_simp; try with_reducible rfl)
                          try simp only [Act.put, List.setIfInBounds_toArray, List.set_cons_zero, List.set_cons_succ]
                          refine take_of (some 96) (i := 16) (v := ?vq3_16) rfl rfl (by kernel_rfl) (by kernel_rfl) (by kernel_rfl) (fun _ _ _ h => h) (Or.inl ⟨by rfl, ?hyq3_16⟩) (by assumption) ?restq3_16
                          case hyq3_16 => (intro w hSw; (try dsimp only at hSw); go_simp; try with_reducible rfl)
                          try simp only [Act.put, List.setIfInBounds_toArray, List.set_cons_zero, List.set_cons_succ]
                          refine take_of (some 97) (i := 17) (v := ?vq3_17) rfl rfl (by kernel_rfl) (by kernel_rfl) (by kernel_rfl) (fun _ _ _ h => h) (Or.inl ⟨by rfl, ?hyq3_17⟩) (by assumption) ?restq3_17
                          case hyq3_17 => (intro w hSw; (try dsimp only at hSw); go_simp; try with_reducible rfl)
                          try simp only [Act.put, List.setIfInBounds_toArray, List.set_cons_zero, List.set_cons_succ]
                          refine take_of (some 98) (i := 18) (v := ?vq3_18) rfl rfl (by kernel_rfl) (by kernel_rfl) (by kernel_rfl) (fun _ _ _ h => h) (Or.inl ⟨by rfl, ?hyq3_18⟩) (by assumption) ?restq3_18
                          case hyq3_18 => (intro w hSw; (try dsimp only at hSw); go_simp; try with_reducible rfl)
                          try simp only [Act.put, List.setIfInBounds_toArray, List.set_cons_zero, List.set_cons_succ]
                          refine take_of (some 99) (i := 19) (v := ?vq3_19) rfl rfl (by kernel_rfl) (by kernel_rfl) (by kernel_rfl) (fun _ _ _ h => h) (Or.inl ⟨by rfl, ?hyq3_19⟩) (by assumption) ?restq3_19
                          case hyq3_19 => (intro w hSw; (try dsimp only at hSw); go_simp; try with_reducible rfl)
                          try simp only [Act.put, List.setIfInBounds_toArray, List.set_cons_zero, List.set_cons_succ]
                          refine take_of (some 100) (i := 20) (v := ?vq3_20) rfl rfl (by kernel_rfl) (by kernel_rfl) (by kernel_rfl) (fun _ _ _ h => h) (Or.inl ⟨by rfl, ?hyq3_20⟩) (by assumption) ?restq3_20
                          case hyq3_20 => (intro w hSw; (try dsimp only at hSw); go_simp; try with_reducible rfl)
                          try simp only [Act.put, List.setIfInBounds_toArray, List.set_cons_zero, List.set_cons_succ]
                          refine take_of (some 101) (i := 21) (v := ?vq3_21) rfl rfl (by kernel_rfl) (by kernel_rfl) (by kernel_rfl) (fun _ _ _ h => h) (Or.inl ⟨by rfl, ?hyq3_21⟩) (by assumption) ?restq3_21
                          case hyq3_21 => (intro w hSw; (try dsimp only at hSw); go_simp; try with_reducible rfl)
                          try simp only [Act.put, List.setIfInBounds_toArray, List.set_cons_zero, List.set_cons_succ]
                          refine take_of (some 102) (i := 22) (v := ?vq3_22) rfl rfl (by kernel_rfl) (by kernel_rfl) (by kernel_rfl) (fun _ _ _ h => h) (Or.inl ⟨by rfl, ?hyq3_22⟩) (by assumption) ?restq3_22
                          case hyq3_22 => (intro w hSw; (try dsimp only at hSw); go_simp; try with_reducible rfl)
                          try simp only [Act.put, List.setIfInBounds_toArray, List.set_cons_zero, List.set_cons_succ]
                          refine take_of (some 103) (i := 23) (v := ?vq3_23) rfl rfl (by kernel_rfl) (by kernel_rfl) (by kernel_rfl) (fun _ _ _ h => h) (Or.inl ⟨by rfl, ?hyq3_23⟩) (by assumption) ?restq3_23
                          case hyq3_23 => (intro w hSw; (try dsimp only at hSw); go_simp; try with_reducible rfl)
                          try simp only [Act.put, List.setIfInBounds_toArray, List.set_cons_zero, List.set_cons_succ]
                          refine take_of (some 104) (i := 24) (v := ?vq3_24) rfl rfl (by kernel_rfl) (by kernel_rfl) (by kernel_rfl) (fun _ _ _ h => h) (Or.inl ⟨by rfl, ?hyq3_24⟩) (by assumption) ?restq3_24
                          case hyq3_24 => (intro w hSw; (try dsimp only at hSw); go_simp; try with_reducible rfl)
                          try simp only [Act.put, List.setIfInBounds_toArray, List.set_cons_zero, List.set_cons_succ]
                          refine wpAnyH_done (by kernel_rfl) ?_ _
                          refine NoPanic.normal ?_
                          go_wp2
                          go_roundw
                          case rel => exact ⟨k + 1, by omega, by go_num, by rw [HN.out], bl_drew HBK.out⟩
                          case measure => simp [intOf]; omega
                    · rw [hgk] at gk
                      have HN := Lib.hid (bsT_true (f := rmW xs T S) hgk)
                      obtain ⟨bv, hbv⟩ : ∃ bv, bsT (rmW xs T S) (gO o r) k = bv := ⟨_, rfl⟩
                      rw [hbv] at HN ⊢
                      clear hgk hbv hx
                      go_wp2_with fail
                      refine wp_region_noPanic ?_
                      refine wp_region_held_drew (S := (fun w' => w'.cell? ⟨wp.heap.size, k, none⟩ = some (.bool true))) (by kernel_rfl) (by (try dsimp only); go_keep) (fun hHeld => ?_)
                      refine take_of (some 80) (i := 0) (v := ?vq4_0) rfl rfl (by kernel_rfl) (by kernel_rfl) (by kernel_rfl) (fun _ _ _ h => h) (Or.inl ⟨by rfl, ?hyq4_0⟩) (by assumption) ?restq4_0
                      case hyq4_0 => (intro w hSw; (try dsimp only at hSw); go_simp; try with_reducible rfl)
                      try simp only [Act.put, List.setIfInBounds_toArray, List.set_cons_zero, List.set_cons_succ]
                      refine take_of (some 81) (i := 1) (v := ?vq4_1) rfl rfl (by kernel_rfl) (by kernel_rfl) (by kernel_rfl) (fun _ _ _ h => h) (Or.inl ⟨by rfl, ?hyq4_1⟩) (by assumption) ?restq4_1
                      case hyq4_1 => (intro w hSw; (try dsimp only at hSw); go_simp; try with_reducible rfl)
                      try simp only [Act.put, List.setIfInBounds_toArray, List.set_cons_zero, List.set_cons_succ]
                      refine take_of (some 82) (i := 2) (v := ?vq4_2) rfl rfl (by kernel_rfl) (by kernel_rfl) (by kernel_rfl) (fun _ _ _ h => h) (Or.inl ⟨by rfl, ?hyq4_2⟩) (by assumption) ?restq4_2
                      case hyq4_2 => (intro w hSw; (try dsimp only at hSw); go_simp; try with_reducible rfl)
                      try simp only [Act.put, List.setIfInBounds_toArray, List.set_cons_zero, List.set_cons_succ]
                      refine take_of (some 83) (i := 3) (v := ?vq4_3) rfl rfl (by kernel_rfl) (by kernel_rfl) (by kernel_rfl) (fun _ _ _ h => h) (Or.inl ⟨by rfl, ?hyq4_3⟩) (by assumption) ?restq4_3
                      case hyq4_3 => (intro w hSw; (try dsimp only at hSw); go_simp; try with_reducible rfl)
                      try simp only [Act.put, List.setIfInBounds_toArray, List.set_cons_zero, List.set_cons_succ]
                      refine take_of (some 84) (i := 4) (v := ?vq4_4) rfl rfl (by kernel_rfl) (by kernel_rfl) (by kernel_rfl) (fun _ _ _ h => h) (Or.inl ⟨by rfl, ?hyq4_4⟩) (by assumption) ?restq4_4
                      case hyq4_4 => (intro w hSw; (try dsimp only at hSw); go_simp; try with_reducible rfl)
                      try simp only [Act.put, List.setIfInBounds_toArray, List.set_cons_zero, List.set_cons_succ]
                      refine take_of (some 85) (i := 5) (v := ?vq4_5) rfl rfl (by kernel_rfl) (by kernel_rfl) (by kernel_rfl) (fun _ _ _ h => h) (Or.inl ⟨by rfl, ?hyq4_5⟩) (by assumption) ?restq4_5
                      case hyq4_5 => (intro w hSw; (try dsimp only at hSw); go_simp; try with_reducible rfl)
                      try simp only [Act.put, List.setIfInBounds_toArray, List.set_cons_zero, List.set_cons_succ]
                      refine take_of (some 86) (i := 6) (v := undef) rfl rfl (by kernel_rfl) (by kernel_rfl) (by kernel_rfl) (fun _ _ _ h => h) (Or.inr ⟨by rfl, rfl⟩) (by assumption) ?_
                      try simp only [Act.put, List.setIfInBounds_toArray, List.set_cons_zero, List.set_cons_succ]
                      refine take_of (some 87) (i := 7) (v := undef) rfl rfl (by kernel_rfl) (by kernel_rfl) (by kernel_rfl) (fun _ _ _ h => h) (Or.inr ⟨by rfl, rfl⟩) (by assumption) ?_
                      try simp only [Act.put, List.setIfInBounds_toArray, List.set_cons_zero, List.set_cons_succ]
                      refine take_of (some 88) (i := 8) (v := undef) rfl rfl (by kernel_rfl) (by kernel_rfl) (by kernel_rfl) (fun _ _ _ h => h) (Or.inr ⟨by rfl, rfl⟩) (by assumption) ?_
                      try simp only [Act.put, List.setIfInBounds_toArray, List.set_cons_zero, List.set_cons_succ]
                      refine take_of (some 89) (i := 9) (v := undef) rfl rfl (by kernel_rfl) (by kernel_rfl) (by kernel_rfl) (fun _ _ _ h => h) (Or.inr ⟨by rfl, rfl⟩) (by assumption) ?_
                      try simp only [Act.put, List.setIfInBounds_toArray, List.set_cons_zero, List.set_cons_succ]
                      refine take_of (some 90) (i := 10) (v := undef) rfl rfl (by kernel_rfl) (by kernel_rfl) (by kernel_rfl) (fun _ _ _ h => h) (Or.inr ⟨by rfl, rfl⟩) (by assumption) ?_
                      try simp only [Act.put, List.setIfInBounds_toArray, List.set_cons_zero, List.set_cons_succ]
                      refine take_of (some 91) (i := 11) (v := undef) rfl rfl (by kernel_rfl) (by kernel_rfl) (by kernel_rfl) (fun _ _ _ h => h) (Or.inr ⟨by rfl, rfl⟩) (by assumption) ?_
                      try simp only [Act.put, List.setIfInBounds_toArray, List.set_cons_zero, List.set_cons_succ]
                      refine take_of (some 92) (i := 12) (v := undef) rfl rfl (by kernel_rfl) (by kernel_rfl) (by kernel_rfl) (fun _ _ _ h => h) (Or.inr ⟨by rfl, rfl⟩) (by assumption) ?_
                      try simp only [Act.put, List.setIfInBounds_toArray, List.set_cons_zero, List.set_cons_succ]
                      refine take_of (some 93) (i := 13) (v := undef) rfl rfl (by kernel_rfl) (by kernel_rfl) (by kernel_rfl) (fun _ _ _ h => h) (Or.inr ⟨by rfl, rfl⟩) (by assumption) ?_
                      try simp only [Act.put, List.setIfInBounds_toArray, List.set_cons_zero, List.set_cons_succ]
                      refine take_of (some 94) (i := 14) (v := undef) rfl rfl (by kernel_rfl) (by kernel_rfl) (by kernel_rfl) (fun _ _ _ h => h) (Or.inr ⟨by rfl, rfl⟩) (by assumption) ?_
                      try simp only [Act.put, List.setIfInBounds_toArray, List.set_cons_zero, List.set_cons_succ]
                      refine take_of (some 95) (i := 15) (v := undef) rfl rfl (by kernel_rfl) (by kernel_rfl) (by kernel_rfl) (fun _ _ _ h => h) (Or.inr ⟨by rfl, rfl⟩) (by assumption) ?_
                      try simp only [Act.put, List.setIfInBounds_toArray, List.set_cons_zero, List.set_cons_succ]
                      refine take_of (some 96) (i := 16) (v := undef) rfl rfl (by kernel_rfl) (by kernel_rfl) (by kernel_rfl) (fun _ _ _ h => h) (Or.inr ⟨by rfl, rfl⟩) (by assumption) ?_
                      try simp only [Act.put, List.setIfInBounds_toArray, List.set_cons_zero, List.set_cons_succ]
                      refine take_of (some 97) (i := 17) (v := undef) rfl rfl (by kernel_rfl) (by kernel_rfl) (by kernel_rfl) (fun _ _ _ h => h) (Or.inr ⟨by rfl, rfl⟩) (by assumption) ?_
                      try simp only [Act.put, List.setIfInBounds_toArray, List.set_cons_zero, List.set_cons_succ]
                      refine take_of (some 98) (i := 18) (v := undef) rfl rfl (by kernel_rfl) (by kernel_rfl) (by kernel_rfl) (fun _ _ _ h => h) (Or.inr ⟨by rfl, rfl⟩) (by assumption) ?_
                      try simp only [Act.put, List.setIfInBounds_toArray, List.set_cons_zero, List.set_cons_succ]
                      refine take_of (some 99) (i := 19) (v := undef) rfl rfl (by kernel_rfl) (by kernel_rfl) (by kernel_rfl) (fun _ _ _ h => h) (Or.inr ⟨by rfl, rfl⟩) (by assumption) ?_
                      try simp only [Act.put, List.setIfInBounds_toArray, List.set_cons_zero, List.set_cons_succ]
                      refine take_of (some 100) (i := 20) (v := undef) rfl rfl (by kernel_rfl) (by kernel_rfl) (by kernel_rfl) (fun _ _ _ h => h) (Or.inr ⟨by rfl, rfl⟩) (by assumption) ?_
                      try simp only [Act.put, List.setIfInBounds_toArray, List.set_cons_zero, List.set_cons_succ]
                      refine take_of (some 101) (i := 21) (v := undef) rfl rfl (by kernel_rfl) (by kernel_rfl) (by kernel_rfl) (fun _ _ _ h => h) (Or.inr ⟨by rfl, rfl⟩) (by assumption) ?_
                      try simp only [Act.put, List.setIfInBounds_toArray, List.set_cons_zero, List.set_cons_succ]
                      refine take_of (some 102) (i := 22) (v := undef) rfl rfl (by kernel_rfl) (by kernel_rfl) (by kernel_rfl) (fun _ _ _ h => h) (Or.inr ⟨by rfl, rfl⟩) (by assumption) ?_
                      try simp only [Act.put, List.setIfInBounds_toArray, List.set_cons_zero, List.set_cons_succ]
                      refine take_of (some 103) (i := 23) (v := undef) rfl rfl (by kernel_rfl) (by kernel_rfl) (by kernel_rfl) (fun _ _ _ h => h) (Or.inr ⟨by rfl, rfl⟩) (by assumption) ?_
                      try simp only [Act.put, List.setIfInBounds_toArray, List.set_cons_zero, List.set_cons_succ]
                      refine take_of (some 104) (i := 24) (v := ?vq4_24) rfl rfl (by kernel_rfl) (by kernel_rfl) (by kernel_rfl) (fun _ _ _ h => h) (Or.inl ⟨by rfl, ?hyq4_24⟩) (by assumption) ?restq4_24
                      case hyq4_24 => (intro w hSw; (try dsimp only at hSw); go_simp; try with_reducible rfl)
                      try simp only [Act.put, List.setIfInBounds_toArray, List.set_cons_zero, List.set_cons_succ]
                      refine wpAnyH_done (by kernel_rfl) ?_ _
                      refine NoPanic.normal ?_
                      go_wp2
                      go_roundw
                      case rel => exact ⟨k + 1, by omega, by go_num, by rw [HN.out], bl_drew HBK.out⟩
                      case measure => simp [intOf]; omega
                  · obtain rfl : n = k := by omega
                    have hol := HOK.out.lt r (by omega)
                    rw [HOK.out.pick (show r < n by omega)]
                    have hW3 := HWr.out.below hbk
                    have hG3 := HGr.out.below hbk
                    obtain ⟨h', e, q1, q2, q3, q4⟩ := hW3.2 (by omega)
                    obtain rfl : h = h' := by simpa using e
                    have hlen := hW3.1
                    obtain ⟨z, hz⟩ : ∃ z, (addO o L r)[o r]? = some z := ⟨(addO o L r)[o r]'(by omega), List.getElem?_eq_getElem _⟩
                    have ch := q3 _ _ hz
                    have cf := q4 (o r)
                    have gc := hG3.1 (o r) hol
                    have gf := hG3.2.1 (o r)
                    have hzb := addO_bd (by omega) HBB.out r z (List.mem_of_getElem? hz)
                    have HZ := Lib.hid (addO_next hz)
                    have o0 : (0 : Int) ≤ (o r : Int) := by omega
                    have o1 : (o r : Int) < (n : Int) := by omega
                    have hGh : wp.heap.size ≠ h := by omega
                    have hhG : h ≠ wp.heap.size := by omega
                    have ez : IntKind.i64.wrap (z + 1) = z + 1 := IntWalk.i64_in _ (by omega)
                    have HWn := Lib.hid (show Wr ((wr.setCell ⟨wp.heap.size, o r, none⟩ (.bool true)).setCell ⟨h, o r, none⟩ (.int .i64 (z + 1))) w.heap.size (some ⟨h, 0, none⟩) n (addO o L (r + 1)) by rw [HZ.out]; exact wr_set (wr_far hW3 hGh) hol)
                    have HGn := Lib.hid (show Gv ((wr.setCell ⟨wp.heap.size, o r, none⟩ (.bool true)).setCell ⟨h, o r, none⟩ (.int .i64 (z + 1))) wp.heap.size n (gO o (r + 1)) by rw [← gO_next]; exact (hG3.set hol).far hhG)
                    have HBn := Lib.hid (show Below w.heap.size w ((wr.setCell ⟨wp.heap.size, o r, none⟩ (.bool true)).setCell ⟨h, o r, none⟩ (.int .i64 (z + 1))) from ((HBR.out.trans (hbk.mono hzr)).setCell (by show w.heap.size ≤ wp.heap.size; omega) _).setCell (by show w.heap.size ≤ h; omega) _)
                    clear hbk hW3 hG3 q3 q4 hz e
                    go_wp2
                    go_roundw
                    case rel => exact ⟨r + 1, by omega, by go_num, HWn, HGn, HBn.out⟩
                    case measure => simp [intOf]; omega
              · obtain rfl : m = r := by omega
                go_wp2
                go_ret2
                rw [HE2.out, HE.out]
                exact rets_of (base := w.heap.size) HWr.out (Nat.le_refl _) hbr
end Go.Proofs.Ytblgeehdngejpaa
