/-
  ShareOfMachines: csShared.
-/
import Derived.Test.YtabmhmbmdegoaaaSh1
import Derived.Test.YtabmhmbmdegoaaaTwo
namespace Go.Proofs.Ytabmhmbmdegoaaa
open Go.RowKit
set_option linter.unusedVariables false
attribute [local go_sem ↓] Go.wp_at_zero Go.wp_at_succ

set_option maxHeartbeats 4000000 in
theorem csShared_any (a h c a' h' c' : Int) (A : Option Addr) (n cp : Nat) (xs : List Cst) (A1 : Option Addr) (k k1 : Nat) (L : List Int) (w : World) (hr : Rd cCst 2 w w.heap.size A n xs) (hw : Rd cI 1 w w.heap.size A1 k L) (hn : n ≤ 8) (hk : k ≤ n)
    (hm : machB a h c = true) (hm' : machB a' h' c' = true) (hx : castsB xs = true) :
    Calls Try.prog 67 #[.agg #[.int .i64 a, .int .i64 h, .int .i64 c], .agg #[.int .i64 a', .int .i64 h', .int .i64 c'], .slice A n cp, .slice A1 k k1] w fun e w' => e = .returned (.int .i64 (shT a h c a' h' c' xs L)) ∧ Below w.heap.size w w' := by
  have hl := hw.1
  have hxl := hr.1
  have HR := Lib.hid hr
  have HW := Lib.hid hw
  have HP := Lib.hid (fun b => pk_diff L b xs.length k (by omega))
  have HL := Lib.hid (fun b => pk_len L b)
  have HM := Lib.hid (And.intro hm (And.intro hm' hx))
  obtain ⟨i0, hi0, hi1, hi2, hi3⟩ := info_parts infoI
  have hK : k ≤ 8 := by omega
  clear hr hw hm hm' hx
  go_enter Try.func67, Try.ntmps67
  go_wp2
  go_loopw [9, 10, 15] (fun u v i wr => ∃ j : Nat, j ≤ k ∧ i = .int .i64 j ∧ Two (w.heap.size + 2) wr u v (pk L true j) (pk L false j) ∧ Below (w.heap.size + 2) ((w.alloc (.cells #[.int .i64 a, .int .i64 h, .int .i64 c] 25)).alloc (.cells #[.int .i64 a', .int .i64 h', .int .i64 c'] 25)) wr) (fun _ _ i _ => k - (intOf i).toNat)
  case atStart => exact ⟨0, Nat.zero_le _, rfl, Two.nil _ _, Below.refl _ _⟩
  case round =>
    obtain ⟨j, hj, rfl, ht, hbj⟩ := hrel
    have hbw : Below w.heap.size w wr := (bl_alloc (bl_alloc (Below.refl w.heap.size w) (.cells #[.int .i64 a, .int .i64 h, .int .i64 c] 25)) (.cells #[.int .i64 a', .int .i64 h', .int .i64 c'] 25)).trans (hbj.mono (by omega))
    have hsz : w.heap.size + 2 ≤ wr.heap.size := by have := hbj.size; simpa using this
    have HT := Lib.hid ht
    have BJ := Lib.hid hbj
    have BW := Lib.hid hbw
    have hlt1 := HL.out true j
    have hlt2 := HL.out false j
    by_cases hlt : j < k
    · obtain ⟨bo, offo, x, rfl, hbB, hik, hci⟩ := (HW.out.below hbw).atI hlt
      have hb0 : bo < wr.heap.size := by omega
      clear hbj hbw ht
      by_cases hx0 : x = 0
      · subst hx0
        have HY := Lib.hid (pk_yes (b := true) hik rfl)
        have HN := Lib.hid (pk_no (b := false) hik (by decide))
        clear hik
        go_wp2_with (at_builtin; refine wpList_append_own_at _ rfl _ _ 42 rfl (w.heap.size + 2) 3 i0 (.int .i64 0) 1 8 Try.underlying42 hi0 hi1 hi2 hi3 rfl (by decide) _ _ _ rfl ((HT.out.a.alloc _)) ⟨wr.heap.size, 0, none⟩ 1 1 [.int .i64 ((j : Int))] rfl rfl ?yc1 ?yc2 ?yc3 ?yc4 ?yc5 ?_)
        case yc1 => exact cell_one_new _ _ _
        case yc2 => first | rfl | (intro u hu; simp at hu; subst hu; rfl)
        case yc3 => unfold maxLen; omega
        case yc4 => omega
        case yc5 => simp; omega
        intro v1 w3 hown3 hg3 _ hat3
        have HT3 := Lib.hid (HT.out.left hown3 hg3 (by simpa using hat3))
        have HB3 := Lib.hid (below_grow BJ.out HT.out.a hg3 (Nat.le_refl _) hsz)
        clear hown3 hg3 hat3
        go_wp2
        go_roundw
        case rel => exact ⟨j + 1, by omega, by go_num, by rw [HY.out, HN.out]; exact HT3.out, HB3.out⟩
        case measure => simp [intOf]; omega
      · have HY := Lib.hid (pk_yes (b := false) hik (by simp [hx0]))
        have HN := Lib.hid (pk_no (b := true) hik (by simp [hx0]))
        clear hik
        go_wp2_with (at_builtin; refine wpList_append_own_at _ rfl _ _ 42 rfl (w.heap.size + 2) 3 i0 (.int .i64 0) 1 8 Try.underlying42 hi0 hi1 hi2 hi3 rfl (by decide) _ _ _ rfl ((HT.out.b.alloc _)) ⟨wr.heap.size, 0, none⟩ 1 1 [.int .i64 ((j : Int))] rfl rfl ?nc1 ?nc2 ?nc3 ?nc4 ?nc5 ?_)
        case nc1 => exact cell_one_new _ _ _
        case nc2 => first | rfl | (intro u hu; simp at hu; subst hu; rfl)
        case nc3 => unfold maxLen; omega
        case nc4 => omega
        case nc5 => simp; omega
        intro v1 w3 hown3 hg3 _ hat3
        have HT3 := Lib.hid (HT.out.right hown3 hg3 (by simpa using hat3))
        have HB3 := Lib.hid (below_grow BJ.out HT.out.b hg3 (Nat.le_refl _) hsz)
        clear hown3 hg3 hat3
        go_wp2
        go_roundw
        case rel => exact ⟨j + 1, by omega, by go_num, by rw [HY.out, HN.out]; exact HT3.out, HB3.out⟩
        case measure => simp [intOf]; omega
    · obtain rfl : j = k := by omega
      obtain ⟨A2, c2, rfl, hw2⟩ := own_wr ht.a
      have hc2 := own_cap ht.a
      obtain ⟨A3, c3, rfl, hw3⟩ := own_wr ht.b
      have hc3 := own_cap ht.b
      have HC := Lib.hid (fun (W : World) (hb : Below wr.heap.size wr W) => csLast_any a h c A A2 n cp (pk L true j).length c2 xs (pk L true j) W ⟨((HR.out.below hbw).more hbw.size |>.below hb).more hb.size, (hw2.below hb).rd, by omega, by omega, hc2⟩ (ordB_of HM.out.1 HM.out.2.2 (HP.out true)))
      have HC' := Lib.hid (fun (W : World) (hb : Below wr.heap.size wr W) => csLast_any a' h' c' A A3 n cp (pk L false j).length c3 xs (pk L false j) W ⟨((HR.out.below hbw).more hbw.size |>.below hb).more hb.size, (hw3.below hb).rd, by omega, by omega, hc3⟩ (ordB_of HM.out.2.1 HM.out.2.2 (HP.out false)))
      obtain ⟨t1, ht1⟩ : ∃ t, (csTo h c xs (pk L true j) a (pk L true j).length).t = t := ⟨_, rfl⟩
      obtain ⟨t2, ht2⟩ : ∃ t, (csTo h' c' xs (pk L false j) a' (pk L false j).length).t = t := ⟨_, rfl⟩
      have HF := Lib.hid (show max t1 t2 = shT a h c a' h' c' xs L by unfold shT tmV; rw [hl, ht1, ht2])
      rw [ht1] at HC
      rw [ht2] at HC'
      have d0 : wr.cell? ⟨w.heap.size, 0, none⟩ = some (.int .i64 a) := (hbj.cell (p := ⟨w.heap.size, 0, none⟩) (by show w.heap.size < _; omega)).trans (by simp)
      have d1 : wr.cell? ⟨w.heap.size, 1, none⟩ = some (.int .i64 h) := (hbj.cell (p := ⟨w.heap.size, 1, none⟩) (by show w.heap.size < _; omega)).trans (by simp)
      have d2 : wr.cell? ⟨w.heap.size, 2, none⟩ = some (.int .i64 c) := (hbj.cell (p := ⟨w.heap.size, 2, none⟩) (by show w.heap.size < _; omega)).trans (by simp)
      have e0 : wr.cell? ⟨w.heap.size + 1, 0, none⟩ = some (.int .i64 a') := (hbj.cell (p := ⟨w.heap.size + 1, 0, none⟩) (by show w.heap.size + 1 < _; omega)).trans (by simp)
      have e1 : wr.cell? ⟨w.heap.size + 1, 1, none⟩ = some (.int .i64 h') := (hbj.cell (p := ⟨w.heap.size + 1, 1, none⟩) (by show w.heap.size + 1 < _; omega)).trans (by simp)
      have e2 : wr.cell? ⟨w.heap.size + 1, 2, none⟩ = some (.int .i64 c') := (hbj.cell (p := ⟨w.heap.size + 1, 2, none⟩) (by show w.heap.size + 1 < _; omega)).trans (by simp)
      clear hbj hbw ht hw2 hw3 ht1 ht2
      go_wp2_with fail
      refine wp_region_noPanic ?_
      refine wp_region_held_drew (S := (fun w' => (w'.cell? ⟨w.heap.size, 0, none⟩ = some (.int .i64 a) ∧ w'.cell? ⟨w.heap.size, 1, none⟩ = some (.int .i64 h) ∧ w'.cell? ⟨w.heap.size, 2, none⟩ = some (.int .i64 c)) ∧ w'.cell? ⟨w.heap.size + 1, 0, none⟩ = some (.int .i64 a') ∧ w'.cell? ⟨w.heap.size + 1, 1, none⟩ = some (.int .i64 h') ∧ w'.cell? ⟨w.heap.size + 1, 2, none⟩ = some (.int .i64 c'))) (by kernel_rfl) (by (try dsimp only); go_keep) (fun hHeld => ?_)
      refine take_of (some 31) (i := 0) (v := ?vq1_0) rfl rfl (by kernel_rfl) (by kernel_rfl) (by kernel_rfl) (fun _ _ _ h => h) (Or.inl ⟨by rfl, ?hyq1_0⟩) (by assumption) ?restq1_0
      case hyq1_0 => (intro w hSw; (try dsimp only at hSw); go_simp; try with_reducible rfl)
      try simp only [Act.put, List.setIfInBounds_toArray, List.set_cons_zero, List.set_cons_succ]
      refine take_of (some 32) (i := 1) (v := ?vq1_1) rfl rfl (by kernel_rfl) (by kernel_rfl) (by kernel_rfl) (fun _ _ _ h => h) (Or.inl ⟨by rfl, ?hyq1_1⟩) (by assumption) ?restq1_1
      case hyq1_1 => (intro w hSw; (try dsimp only at hSw); go_simp; try with_reducible rfl)
      try simp only [Act.put, List.setIfInBounds_toArray, List.set_cons_zero, List.set_cons_succ]
      refine take_of (some 33) (i := 2) (v := ?vq1_2) rfl rfl (by kernel_rfl) (by kernel_rfl) (by kernel_rfl) (fun _ _ _ h => h) (Or.inl ⟨by rfl, ?hyq1_2⟩) (by assumption) ?restq1_2
      case hyq1_2 => (intro w hSw; (try dsimp only at hSw); go_simp; try with_reducible rfl)
      try simp only [Act.put, List.setIfInBounds_toArray, List.set_cons_zero, List.set_cons_succ]
      refine take_of (some 35) (i := 4) (v := ?vq1_4) rfl rfl (by kernel_rfl) (by kernel_rfl) (by kernel_rfl) (fun _ _ _ h => h) (Or.inl ⟨by rfl, ?hyq1_4⟩) (by assumption) ?restq1_4
      case hyq1_4 => (intro w hSw; (try dsimp only at hSw); go_simp; try with_reducible rfl)
      try simp only [Act.put, List.setIfInBounds_toArray, List.set_cons_zero, List.set_cons_succ]
      refine take_of (some 36) (i := 5) (v := ?vq1_5) rfl rfl (by kernel_rfl) (by kernel_rfl) (by kernel_rfl) (fun _ _ _ h => h) (Or.inl ⟨by rfl, ?hyq1_5⟩) (by assumption) ?restq1_5
      case hyq1_5 => (intro w hSw; (try dsimp only at hSw); go_simp; try with_reducible rfl)
      try simp only [Act.put, List.setIfInBounds_toArray, List.set_cons_zero, List.set_cons_succ]
      refine take_of (some 37) (i := 6) (v := ?vq1_6) rfl rfl (by kernel_rfl) (by kernel_rfl) (by kernel_rfl) (fun _ _ _ h => h) (Or.inl ⟨by rfl, ?hyq1_6⟩) (by assumption) ?restq1_6
      case hyq1_6 => (intro w hSw; (try dsimp only at hSw); go_simp; try with_reducible rfl)
      try simp only [Act.put, List.setIfInBounds_toArray, List.set_cons_zero, List.set_cons_succ]
      refine wpAnyH_ready (rs := [3]) (by kernel_rfl) (by simp) ?_
      refine AllReadyH.cons rfl (fun K hK => ?_) AllReadyH.nil
      go_simp
      (go_at_call 60; refine (HC.out _ (bl_drew (Below.refl _ _))).mono ?_; rintro e w6 ⟨rfl, hb⟩; have hb6 : Below wr.heap.size wr w6 := (bl_drew (Below.refl wr.heap.size wr)).trans hb; have x0 := (hb6.cell (p := ⟨w.heap.size, 0, none⟩) (by show w.heap.size < _; omega)).trans d0; have xe0 := (hb6.cell (p := ⟨w.heap.size + 1, 0, none⟩) (by show w.heap.size + 1 < _; omega)).trans e0; have x1 := (hb6.cell (p := ⟨w.heap.size, 1, none⟩) (by show w.heap.size < _; omega)).trans d1; have xe1 := (hb6.cell (p := ⟨w.heap.size + 1, 1, none⟩) (by show w.heap.size + 1 < _; omega)).trans e1; have x2 := (hb6.cell (p := ⟨w.heap.size, 2, none⟩) (by show w.heap.size < _; omega)).trans d2; have xe2 := (hb6.cell (p := ⟨w.heap.size + 1, 2, none⟩) (by show w.heap.size + 1 < _; omega)).trans e2; have HB6 := Lib.hid hb6; clear hb hb6)
      go_wp2_with fail
      refine hK.out _ _ (by (try dsimp only); go_keep) (fun hHeld => ?_)
      clear hK K
      try simp only [Act.put, List.setIfInBounds_toArray, List.set_cons_zero, List.set_cons_succ]
      refine wpAnyH_ready (rs := [7]) (by kernel_rfl) (by simp) ?_
      refine AllReadyH.cons rfl (fun K hK => ?_) AllReadyH.nil
      go_simp
      (go_at_call 60; refine (HC'.out _ HB6.out).mono ?_; rintro e w7 ⟨rfl, hb⟩; have hb7 := HB6.out.trans (hb.mono HB6.out.size); have y0 := (hb7.cell (p := ⟨w.heap.size, 0, none⟩) (by show w.heap.size < _; omega)).trans d0; have ye0 := (hb7.cell (p := ⟨w.heap.size + 1, 0, none⟩) (by show w.heap.size + 1 < _; omega)).trans e0; have y1 := (hb7.cell (p := ⟨w.heap.size, 1, none⟩) (by show w.heap.size < _; omega)).trans d1; have ye1 := (hb7.cell (p := ⟨w.heap.size + 1, 1, none⟩) (by show w.heap.size + 1 < _; omega)).trans e1; have y2 := (hb7.cell (p := ⟨w.heap.size, 2, none⟩) (by show w.heap.size < _; omega)).trans d2; have ye2 := (hb7.cell (p := ⟨w.heap.size + 1, 2, none⟩) (by show w.heap.size + 1 < _; omega)).trans e2; have HB7 := Lib.hid hb7; clear hb hb7)
      go_wp2_with fail
      refine hK.out _ _ (by (try dsimp only); go_keep) (fun hHeld => ?_)
      clear hK K
      try simp only [Act.put, List.setIfInBounds_toArray, List.set_cons_zero, List.set_cons_succ]
      refine wpAnyH_ready (rs := [8]) (by kernel_rfl) (by simp) ?_
      refine AllReadyH.cons rfl (fun K hK => ?_) AllReadyH.nil
      go_simp
      (go_at_call 77; refine (l1Most_any _ _ _).mono ?_; rintro e w' ⟨rfl, rfl⟩)
      go_wp2_with fail
      refine hK.out _ _ (by (try dsimp only); go_keep) (fun hHeld => ?_)
      clear hK K
      try simp only [Act.put, List.setIfInBounds_toArray, List.set_cons_zero, List.set_cons_succ]
      refine take_of (some 8) (i := 9) (v := ?vq1_9) rfl rfl (by kernel_rfl) (by kernel_rfl) (by kernel_rfl) (fun _ _ _ h => h) (Or.inl ⟨by rfl, ?hyq1_9⟩) (by assumption) ?restq1_9
      case hyq1_9 => (intro w hSw; (try dsimp only at hSw); go_simp; try with_reducible rfl)
      try simp only [Act.put, List.setIfInBounds_toArray, List.set_cons_zero, List.set_cons_succ]
      refine wpAnyH_done (by kernel_rfl) ?_ _
      refine NoPanic.normal ?_
      go_wp2
      go_ret
      rw [HF.out]
      exact ⟨rfl, BW.out.trans (HB7.out.mono (by omega))⟩
end Go.Proofs.Ytabmhmbmdegoaaa
