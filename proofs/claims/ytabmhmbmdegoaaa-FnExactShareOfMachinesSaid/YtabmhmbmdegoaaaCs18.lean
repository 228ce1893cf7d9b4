/-
  BestCastOrder: eachOrder with its closure.
-/
import Derived.Test.YtabmhmbmdegoaaaCs17
namespace Go.Proofs.Ytabmhmbmdegoaaa
open Go.RowKit
set_option linter.unusedVariables false
attribute [local go_sem ↓] Go.wp_at_zero Go.wp_at_succ

set_option maxHeartbeats 4000000 in
theorem eachBest_step (pb pm pl : Nat) (a h c : Int) (A : Option Addr) (n cp : Nat) (xs : List Cst) (hn : n ≤ 8) (hxl : xs.length = n) (hm : machB a h c = true) (hx : castsB xs = true) (f : Nat)
    (ih : 0 < f → ∀ (A1 : Option Addr) (k k1 : Nat) (L : List Int) (best : List Int × Int) (w : World), L.length + (f - 1) = n → StB w pb pm pl a h c A n cp xs best → Wr w (pb + 2) A1 k L → k ≤ k1 → diffB L (xs.length : Int) = true → best.1.length ≤ 8 →
      Calls Try.prog 65 #[.int .i64 n, .slice A1 k k1, .func (.func 70) #[] #[.pointer (some ⟨pl, 0, none⟩), .pointer (some ⟨pm, 0, none⟩), .pointer (some ⟨pb + 1, 0, none⟩), .pointer (some ⟨pb, 0, none⟩)]] w
        (CloB w pb pm pl a h c A n cp xs (eo n (bStep n (tmV a h c xs)) (f - 1) L best))) :
    ∀ (A1 : Option Addr) (k k1 : Nat) (L : List Int) (best : List Int × Int) (w : World), L.length + f = n → StB w pb pm pl a h c A n cp xs best → Wr w (pb + 2) A1 k L → k ≤ k1 → diffB L (xs.length : Int) = true → best.1.length ≤ 8 →
    Calls Try.prog 65 #[.int .i64 n, .slice A1 k k1, .func (.func 70) #[] #[.pointer (some ⟨pl, 0, none⟩), .pointer (some ⟨pm, 0, none⟩), .pointer (some ⟨pb + 1, 0, none⟩), .pointer (some ⟨pb, 0, none⟩)]] w
      (CloB w pb pm pl a h c A n cp xs (eo n (bStep n (tmV a h c xs)) f L best)) := by
  intro A1 k k1 L best w hLf s hw hk1 hd hbl
  have hl := hw.1
  have S := Lib.hid s
  have HW := Lib.hid hw
  have HD := Lib.hid hd
  have IH := Lib.hid ih
  have HCL := Lib.hid (best1_any pb pm pl a h c A n cp xs best A1 k k1 L w s hw hk1 hn hm hx hd hbl)
  obtain ⟨i0, hi0, hi1, hi2, hi3⟩ := info_parts infoI
  have HEN := Lib.hid (eoK_end n (bStep n (tmV a h c xs)) f L best)
  have HZ := Lib.hid (eoK_zero n (bStep n (tmV a h c xs)) f L best)
  clear s hw hd ih
  go_enter Try.func65, Try.ntmps65
  go_wp2_with (go_at_call 70; refine HCL.out.mono ?_; rintro e w1 ⟨rfl, hs1, hg1, hb1⟩)
  go_loopw [6] (fun i wr => ∃ j : Nat, j ≤ n ∧ i = .int .i64 j ∧ StB wr pb pm pl a h c A n cp xs (eoK n (bStep n (tmV a h c xs)) f L best j) ∧ Fr pb (pb + 2) w wr ∧ (eoK n (bStep n (tmV a h c xs)) f L best j).1.length ≤ 8) (fun i _ => n - (intOf i).toNat)
  case atStart => exact ⟨0, Nat.zero_le _, rfl, by rw [HZ.out]; exact hs1, hg1, by rw [HZ.out]; exact hb1⟩
  case round =>
    obtain ⟨j, hj, rfl, hsj, hgj, hbj⟩ := hrel
    have hwj := wr_fr HW.out hgj (Nat.le_refl _)
    have SJ := Lib.hid hsj
    have WJ := Lib.hid hwj
    have GJ := Lib.hid hgj
    have hsl := hsj.lt
    have hrj := hwj.rd
    clear hsj hwj hgj
    by_cases hlt : j < n
    · rcases hh : hasI L (j : Int) with _ | _
      · have HH := Lib.hid hh
        have hf0 : 0 < f := by
          rcases Nat.eq_zero_or_pos f with h0 | h0
          · have := has_full HD.out (by omega) (i := (j : Int)) (by omega) (by omega)
            rw [hh] at this; cases this
          · exact h0
        obtain ⟨wo, rfl⟩ : ∃ wo : World, wo = wr := ⟨_, rfl⟩
        have HE := Lib.hid (eoK_new (n := n) (stp := bStep n (tmV a h c xs)) (f := f) (s := best) hh hf0)
        have HDN := Lib.hid (diff_snoc HD.out (i := (j : Int)) (by omega) (by omega) hh)
        have hrb := hrj.below (bl_alloc (Below.refl wo.heap.size wo) (.cells #[] 3))
        clear hh
        go_wp2_with (first | (go_at_call 76; refine (hasNumber_any _ _ _ _ L (j : Int) _ hrj (by unfold maxLen; omega)).mono ?_; rw [HH.out]; rintro e w' ⟨rfl, rfl⟩) | (at_builtin; refine wpList_append_rd _ rfl (.tmp 20) (.tmp 21) 42 rfl wo.heap.size 3 i0 Try.underlying42 hi0 hi1 hi2 hi3 _ _ _ rfl (own_start wo).own wo.heap.size A1 k k1 L rfl hrb ?r2 ?r3 ?_))
        case r2 => omega
        case r3 => first | (simp; done) | (simp; omega)
        intro v1 w3 hown3 hg3 hat3
        have HO3 := Lib.hid ((own_start wo).step hown3 hg3 (by simpa using hat3))
        go_wp2_with (at_builtin; refine wpList_append_own_at _ rfl _ _ 42 rfl wo.heap.size 3 i0 (.int .i64 0) 1 8 Try.underlying42 hi0 hi1 hi2 hi3 rfl (by decide) _ _ _ rfl ((HO3.out.alloc _).own) ⟨w3.heap.size, 0, none⟩ 1 1 [.int .i64 ((j : Int))] rfl rfl ?zc1 ?zc2 ?zc3 ?zc4 ?zc5 ?_)
        case zc1 => exact cell_one_new _ _ _
        case zc2 => first | rfl | (intro u hu; simp at hu; subst hu; rfl)
        case zc3 => unfold maxLen; omega
        case zc4 => omega
        case zc5 => have := HO3.out.gr.size; simp; omega
        intro v2 w5 hown5 hg5 _ hat5
        have HN5 := HO3.out.push hown5 hg5 hat5
        have hb5 : Below wo.heap.size wo w5 := HN5.to_below (Nat.le_refl _) (Nat.le_refl _)
        have hown6 : w5.ownsRow wo.heap.size 3 1 v2 (k + 1) ((L ++ [(j : Int)]).map (Value.int .i64)) := by simpa using hown5
        obtain ⟨A2, c2, rfl, hw2⟩ := own_wr hown6
        have hc2 := own_cap hown6
        clear hown3 hg3 hat3 hown5 hg5 hat5 HN5 hown6
        go_wp2_with fail
        refine (IH.out hf0 A2 (k + 1) c2 (L ++ [(j : Int)]) _ w5 (by rw [List.length_append, List.length_singleton]; omega) (SJ.out.below hb5) (wr_base hw2 (by omega)) hc2 HDN.out hbj).mono ?_
        rintro e w6 ⟨rfl, hs6, hg6, hb6⟩
        go_wp2
        go_roundw
        case rel => exact ⟨j + 1, by omega, by go_num, by rw [HE.out]; exact hs6, fr_trans (fr_trans GJ.out (fr_bl hb5)) hg6, by rw [HE.out]; exact hb6⟩
        case measure => simp [intOf]; omega
      · have HH := Lib.hid hh
        have HE := Lib.hid (eoK_has (n := n) (stp := bStep n (tmV a h c xs)) (f := f) (s := best) hh)
        clear hh
        go_wp2_with (go_at_call 76; refine (hasNumber_any _ _ _ _ L (j : Int) _ hrj (by unfold maxLen; omega)).mono ?_; rw [HH.out]; rintro e w' ⟨rfl, rfl⟩)
        go_roundw
        case rel => exact ⟨j + 1, by omega, by go_num, by rw [HE.out]; exact SJ.out, GJ.out, by rw [HE.out]; exact hbj⟩
        case measure => simp [intOf]; omega
    · obtain rfl : j = n := by omega
      go_wp2
      (first | go_end0 | refine bodyPost_ret (results_none rfl _ _ _) rfl ?_)
      rw [← HEN.out]
      exact ⟨rfl, SJ.out, GJ.out, hbj⟩
theorem eachBest_any (pb pm pl : Nat) (a h c : Int) (A : Option Addr) (n cp : Nat) (xs : List Cst) (hn : n ≤ 8) (hxl : xs.length = n) (hm : machB a h c = true) (hx : castsB xs = true) :
    ∀ (f : Nat) (A1 : Option Addr) (k k1 : Nat) (L : List Int) (best : List Int × Int) (w : World), L.length + f = n → StB w pb pm pl a h c A n cp xs best → Wr w (pb + 2) A1 k L → k ≤ k1 → diffB L (xs.length : Int) = true → best.1.length ≤ 8 →
    Calls Try.prog 65 #[.int .i64 n, .slice A1 k k1, .func (.func 70) #[] #[.pointer (some ⟨pl, 0, none⟩), .pointer (some ⟨pm, 0, none⟩), .pointer (some ⟨pb + 1, 0, none⟩), .pointer (some ⟨pb, 0, none⟩)]] w
      (CloB w pb pm pl a h c A n cp xs (eo n (bStep n (tmV a h c xs)) f L best)) := by
  intro f
  induction f with
  | zero => exact eachBest_step pb pm pl a h c A n cp xs hn hxl hm hx 0 (fun h => absurd h (by omega))
  | succ g ih => exact eachBest_step pb pm pl a h c A n cp xs hn hxl hm hx (g + 1) (fun _ => ih)
end Go.Proofs.Ytabmhmbmdegoaaa
