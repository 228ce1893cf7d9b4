/-
  ShareOfMachines: the law's walk.
-/
import Derived.Test.YtabmhmbmdegoaaaSh7
namespace Go.Proofs.Ytabmhmbmdegoaaa
open Go.RowKit
set_option linter.unusedVariables false
attribute [local go_sem ↓] Go.wp_at_zero Go.wp_at_succ

theorem smS_len (a h c a' h' c' : Int) (xs : List Cst) : (smS a h c a' h' c' xs).1.length ≤ 8 := by
  unfold smS
  split
  · rename_i hb
    unfold smB at hb
    simp only [Bool.and_eq_true] at hb
    have := casts_len hb.2.2
    have := shC_len (shT a h c a' h' c' xs) xs.length (2 ^ xs.length)
    omega
  · simp
set_option maxHeartbeats 4000000 in
theorem lawShareOfMachines (a h c a' h' c' : Int) (A : Option Addr) (n cp : Nat) (xs : List Cst) (w : World) (_ : I64 a) (_ : I64 h) (_ : I64 c) (_ : I64 a') (_ : I64 h') (_ : I64 c') (hr : Rd cCst 2 w w.heap.size A n xs) (hn : n ≤ maxLen) (_ : ∀ x ∈ xs, okCst x) :
    Calls Try.prog 12 #[.agg #[.int .i64 a, .int .i64 h, .int .i64 c], .agg #[.int .i64 a', .int .i64 h', .int .i64 c'], .slice A n cp] w fun e w' => e = .returned (.bool (true)) ∧ Below w.heap.size w w' := by
  have hLen := smS_len a h c a' h' c' xs
  have H1 := Lib.hid (fun A1 W (hr : Rd cCst 2 W W.heap.size A1 n xs) (hn : n ≤ 1048576) => specSM_any a h c a' h' c' A1 n n xs W hr hn)
  have H2 := Lib.hid (fun A1 W (hr : Rd cCst 2 W W.heap.size A1 n xs) (hn : n ≤ 1048576) => implSM_any a h c a' h' c' A1 n n xs W hr hn)
  obtain ⟨L, hLL⟩ : ∃ L, L = (smS a h c a' h' c' xs).1 := ⟨_, rfl⟩
  obtain ⟨t, ht⟩ : ∃ t, t = (smS a h c a' h' c' xs).2 := ⟨_, rfl⟩
  obtain ⟨v, hv⟩ : ∃ v, v = smB a h c a' h' c' xs := ⟨_, rfl⟩
  rw [← hLL, ← ht, ← hv] at H1 H2
  rw [← hLL] at hLen
  clear hLL ht hv
  have heq := Lib.hid (eqL_same L)
  have hn' := hn
  unfold maxLen at hn'
  have HN := Lib.hid hn
  clear hn
  by_cases hsz : (1048576 : Int) - n < 0
  · have E := Lib.hid (szV_neg hsz)
    go_enter Try.func12, Try.ntmps12
    go_wp2_with (go_at_call 20; refine (szCst_any _ _ _ _ _ HN.out (by omega) (by omega)).mono ?_; rw [E.out]; rintro e w' ⟨rfl, rfl⟩)
    go_ret
    exact ⟨rfl, by repeat (first | (with_reducible exact Below.refl _ _) | (with_reducible assumption) | (with_reducible refine bl_alloc ?_ _) | (with_reducible refine bl_drew ?_) | (with_reducible refine bl_drewN ?_ _) | ((with_reducible refine bl_set ?_ ?hb _); (case hb => first | (simp; done) | omega | (simp; omega))) | (with_reducible refine bl_trans ?_ (by assumption)))⟩
  have E := Lib.hid (szV_pos hsz)
  have hn2 : n ≤ 1048576 := by omega
  have HT := Lib.hid (fun (W : World) (h : Below w.heap.size w W) => toCstS_cap A n cp _ xs W (hr.below h) h.size hn2)
  go_enter Try.func12, Try.ntmps12
  go_wp2_with (go_at_call 20; refine (szCst_any _ _ _ _ _ HN.out (by omega) (by omega)).mono ?_; rw [E.out]; rintro e w' ⟨rfl, rfl⟩)
  refine wp_region_noPanic ?_
  refine wp_region_held_drew (S := (fun w' => (w'.cell? ⟨w.heap.size, 0, none⟩ = some (.int .i64 a) ∧ w'.cell? ⟨w.heap.size, 1, none⟩ = some (.int .i64 h) ∧ w'.cell? ⟨w.heap.size, 2, none⟩ = some (.int .i64 c)) ∧ w'.cell? ⟨w.heap.size + 1, 0, none⟩ = some (.int .i64 a') ∧ w'.cell? ⟨w.heap.size + 1, 1, none⟩ = some (.int .i64 h') ∧ w'.cell? ⟨w.heap.size + 1, 2, none⟩ = some (.int .i64 c'))) (by kernel_rfl) (by (try dsimp only); go_keep) (fun hHeld => ?_)
  refine take_of (some 27) (i := 0) (v := ?vq1_0) rfl rfl (by kernel_rfl) (by kernel_rfl) (by kernel_rfl) (fun _ _ _ h => h) (Or.inl ⟨by rfl, ?hyq1_0⟩) (by assumption) ?restq1_0
  case hyq1_0 => (intro w hSw; (try dsimp only at hSw); go_simp; try with_reducible rfl)
  try simp only [Act.put, List.setIfInBounds_toArray, List.set_cons_zero, List.set_cons_succ]
  refine take_of (some 29) (i := 2) (v := ?vq1_2) rfl rfl (by kernel_rfl) (by kernel_rfl) (by kernel_rfl) (fun _ _ _ h => h) (Or.inl ⟨by rfl, ?hyq1_2⟩) (by assumption) ?restq1_2
  case hyq1_2 => (intro w hSw; (try dsimp only at hSw); go_simp; try with_reducible rfl)
  try simp only [Act.put, List.setIfInBounds_toArray, List.set_cons_zero, List.set_cons_succ]
  refine take_of (some 31) (i := 4) (v := ?vq1_4) rfl rfl (by kernel_rfl) (by kernel_rfl) (by kernel_rfl) (fun _ _ _ h => h) (Or.inl ⟨by rfl, ?hyq1_4⟩) (by assumption) ?restq1_4
  case hyq1_4 => (intro w hSw; (try dsimp only at hSw); go_simp; try with_reducible rfl)
  try simp only [Act.put, List.setIfInBounds_toArray, List.set_cons_zero, List.set_cons_succ]
  refine wpAnyH_ready (rs := [1]) (by kernel_rfl) (by simp) ?_
  refine AllReadyH.cons rfl (fun K hK => ?_) AllReadyH.nil
  go_simp
  (go_at_call 15; refine (toMachine_any _ _ _ _).mono ?_; rintro e w1 ⟨rfl, hb⟩; have xa0 : w1.cell? ⟨w.heap.size, 0, none⟩ = some (.int .i64 a) := (hb.cell (p := ⟨w.heap.size, 0, none⟩) (by show w.heap.size < _; first | (simp; done) | (simp; omega))).trans (by simp); have xa1 : w1.cell? ⟨w.heap.size, 1, none⟩ = some (.int .i64 h) := (hb.cell (p := ⟨w.heap.size, 1, none⟩) (by show w.heap.size < _; first | (simp; done) | (simp; omega))).trans (by simp); have xa2 : w1.cell? ⟨w.heap.size, 2, none⟩ = some (.int .i64 c) := (hb.cell (p := ⟨w.heap.size, 2, none⟩) (by show w.heap.size < _; first | (simp; done) | (simp; omega))).trans (by simp); have xa3 : w1.cell? ⟨w.heap.size + 1, 0, none⟩ = some (.int .i64 a') := (hb.cell (p := ⟨w.heap.size + 1, 0, none⟩) (by show w.heap.size + 1 < _; first | (simp; done) | (simp; omega))).trans (by simp); have xa4 : w1.cell? ⟨w.heap.size + 1, 1, none⟩ = some (.int .i64 h') := (hb.cell (p := ⟨w.heap.size + 1, 1, none⟩) (by show w.heap.size + 1 < _; first | (simp; done) | (simp; omega))).trans (by simp); have xa5 : w1.cell? ⟨w.heap.size + 1, 2, none⟩ = some (.int .i64 c') := (hb.cell (p := ⟨w.heap.size + 1, 2, none⟩) (by show w.heap.size + 1 < _; first | (simp; done) | (simp; omega))).trans (by simp); have hz1 : w.heap.size + 1 < w1.heap.size := (by have := hb.size; simp at this; omega); have HB1 := Lib.hid (bl_trans (bl_drew (bl_alloc (bl_alloc (Below.refl w.heap.size w) _) _)) hb); clear hb)
  go_wp2_with fail
  refine hK.out _ _ (by (try dsimp only); go_keep) (fun hHeld => ?_)
  clear hK K
  try simp only [Act.put, List.setIfInBounds_toArray, List.set_cons_zero, List.set_cons_succ]
  refine wpAnyH_ready (rs := [3]) (by kernel_rfl) (by simp) ?_
  refine AllReadyH.cons rfl (fun K hK => ?_) AllReadyH.nil
  go_simp
  (go_at_call 15; refine (toMachine_any _ _ _ _).mono ?_; rintro e w2 ⟨rfl, hb⟩; have xb0 := (hb.cell (p := ⟨w.heap.size, 0, none⟩) (by show w.heap.size < _; omega)).trans xa0; have xb1 := (hb.cell (p := ⟨w.heap.size, 1, none⟩) (by show w.heap.size < _; omega)).trans xa1; have xb2 := (hb.cell (p := ⟨w.heap.size, 2, none⟩) (by show w.heap.size < _; omega)).trans xa2; have xb3 := (hb.cell (p := ⟨w.heap.size + 1, 0, none⟩) (by show w.heap.size + 1 < _; omega)).trans xa3; have xb4 := (hb.cell (p := ⟨w.heap.size + 1, 1, none⟩) (by show w.heap.size + 1 < _; omega)).trans xa4; have xb5 := (hb.cell (p := ⟨w.heap.size + 1, 2, none⟩) (by show w.heap.size + 1 < _; omega)).trans xa5; have hz2 : w.heap.size + 1 < w2.heap.size := (by have := hb.size; omega); have HB2 := Lib.hid (bl_trans HB1.out hb); clear hb; clear xa0 xa1 xa2 xa3 xa4 xa5)
  go_wp2_with fail
  refine hK.out _ _ (by (try dsimp only); go_keep) (fun hHeld => ?_)
  clear hK K
  try simp only [Act.put, List.setIfInBounds_toArray, List.set_cons_zero, List.set_cons_succ]
  refine wpAnyH_ready (rs := [5]) (by kernel_rfl) (by simp) ?_
  refine AllReadyH.cons rfl (fun K hK => ?_) AllReadyH.nil
  go_simp
  (go_at_call 22; refine (HT.out _ HB2.out).mono ?_; rintro e w3 ⟨A2, rfl, h2, hb⟩; have xc0 := (hb.cell (p := ⟨w.heap.size, 0, none⟩) (by show w.heap.size < _; omega)).trans xb0; have xc1 := (hb.cell (p := ⟨w.heap.size, 1, none⟩) (by show w.heap.size < _; omega)).trans xb1; have xc2 := (hb.cell (p := ⟨w.heap.size, 2, none⟩) (by show w.heap.size < _; omega)).trans xb2; have xc3 := (hb.cell (p := ⟨w.heap.size + 1, 0, none⟩) (by show w.heap.size + 1 < _; omega)).trans xb3; have xc4 := (hb.cell (p := ⟨w.heap.size + 1, 1, none⟩) (by show w.heap.size + 1 < _; omega)).trans xb4; have xc5 := (hb.cell (p := ⟨w.heap.size + 1, 2, none⟩) (by show w.heap.size + 1 < _; omega)).trans xb5; have hz3 : w.heap.size + 1 < w3.heap.size := (by have := hb.size; omega); have HO3 := Lib.hid h2.rd; have HB3 := Lib.hid (bl_trans HB2.out hb); clear h2 hb; clear xb0 xb1 xb2 xb3 xb4 xb5)
  go_wp2_with fail
  refine hK.out _ _ (by (try dsimp only); go_keep) (fun hHeld => ?_)
  clear hK K
  try simp only [Act.put, List.setIfInBounds_toArray, List.set_cons_zero, List.set_cons_succ]
  refine wpAnyH_ready (rs := [6]) (by kernel_rfl) (by simp) ?_
  refine AllReadyH.cons rfl (fun K hK => ?_) AllReadyH.nil
  go_simp
  (go_at_call 42; refine (H1.out _ _ HO3.out hn2).mono ?_; rintro e w4 ⟨A0, cap0, rfl, hw0, hb⟩; have m0 := (hb.cell (p := ⟨w.heap.size, 0, none⟩) (by show w.heap.size < _; omega)).trans xc0; have m1 := (hb.cell (p := ⟨w.heap.size, 1, none⟩) (by show w.heap.size < _; omega)).trans xc1; have m2 := (hb.cell (p := ⟨w.heap.size, 2, none⟩) (by show w.heap.size < _; omega)).trans xc2; have m3 := (hb.cell (p := ⟨w.heap.size + 1, 0, none⟩) (by show w.heap.size + 1 < _; omega)).trans xc3; have m4 := (hb.cell (p := ⟨w.heap.size + 1, 1, none⟩) (by show w.heap.size + 1 < _; omega)).trans xc4; have m5 := (hb.cell (p := ⟨w.heap.size + 1, 2, none⟩) (by show w.heap.size + 1 < _; omega)).trans xc5; have hz4 : w.heap.size + 1 < w4.heap.size := (by have := hb.size; omega); have HB4 := Lib.hid (bl_trans HB3.out hb); have HR0 := Lib.hid hw0.rd; clear hw0 hb; clear xc0 xc1 xc2 xc3 xc4 xc5)
  go_wp2_with fail
  refine hK.out _ _ (by (try dsimp only); go_keep) (fun hHeld => ?_)
  clear hK K
  try simp only [Act.put, List.setIfInBounds_toArray, List.set_cons_zero, List.set_cons_succ]
  refine take_of (some 26) (i := 7) (v := ?vq1_7) rfl rfl (by kernel_rfl) (by kernel_rfl) (by kernel_rfl) (fun _ _ _ h => h) (Or.inl ⟨by rfl, ?hyq1_7⟩) (by assumption) ?restq1_7
  case hyq1_7 => (intro w hSw; (try dsimp only at hSw); go_simp; try with_reducible rfl)
  try simp only [Act.put, List.setIfInBounds_toArray, List.set_cons_zero, List.set_cons_succ]
  refine take_of (some 34) (i := 8) (v := ?vq1_8) rfl rfl (by kernel_rfl) (by kernel_rfl) (by kernel_rfl) (fun _ _ _ h => h) (Or.inl ⟨by rfl, ?hyq1_8⟩) (by assumption) ?restq1_8
  case hyq1_8 => (intro w hSw; (try dsimp only at hSw); go_simp; try with_reducible rfl)
  try simp only [Act.put, List.setIfInBounds_toArray, List.set_cons_zero, List.set_cons_succ]
  refine take_of (some 35) (i := 9) (v := ?vq1_9) rfl rfl (by kernel_rfl) (by kernel_rfl) (by kernel_rfl) (fun _ _ _ h => h) (Or.inl ⟨by rfl, ?hyq1_9⟩) (by assumption) ?restq1_9
  case hyq1_9 => (intro w hSw; (try dsimp only at hSw); go_simp; try with_reducible rfl)
  try simp only [Act.put, List.setIfInBounds_toArray, List.set_cons_zero, List.set_cons_succ]
  refine take_of (some 36) (i := 10) (v := ?vq1_10) rfl rfl (by kernel_rfl) (by kernel_rfl) (by kernel_rfl) (fun _ _ _ h => h) (Or.inl ⟨by rfl, ?hyq1_10⟩) (by assumption) ?restq1_10
  case hyq1_10 => (intro w hSw; (try dsimp only at hSw); go_simp; try with_reducible rfl)
  try simp only [Act.put, List.setIfInBounds_toArray, List.set_cons_zero, List.set_cons_succ]
  refine take_of (some 8) (i := 11) (v := ?vq1_11) rfl rfl (by kernel_rfl) (by kernel_rfl) (by kernel_rfl) (fun _ _ _ h => h) (Or.inl ⟨by rfl, ?hyq1_11⟩) (by assumption) ?restq1_11
  case hyq1_11 => (intro w hSw; (try dsimp only at hSw); go_simp; try with_reducible rfl)
  try simp only [Act.put, List.setIfInBounds_toArray, List.set_cons_zero, List.set_cons_succ]
  refine take_of (some 9) (i := 12) (v := ?vq1_12) rfl rfl (by kernel_rfl) (by kernel_rfl) (by kernel_rfl) (fun _ _ _ h => h) (Or.inl ⟨by rfl, ?hyq1_12⟩) (by assumption) ?restq1_12
  case hyq1_12 => (intro w hSw; (try dsimp only at hSw); go_simp; try with_reducible rfl)
  try simp only [Act.put, List.setIfInBounds_toArray, List.set_cons_zero, List.set_cons_succ]
  refine take_of (some 10) (i := 13) (v := ?vq1_13) rfl rfl (by kernel_rfl) (by kernel_rfl) (by kernel_rfl) (fun _ _ _ h => h) (Or.inl ⟨by rfl, ?hyq1_13⟩) (by assumption) ?restq1_13
  case hyq1_13 => (intro w hSw; (try dsimp only at hSw); go_simp; try with_reducible rfl)
  try simp only [Act.put, List.setIfInBounds_toArray, List.set_cons_zero, List.set_cons_succ]
  refine wpAnyH_done (by kernel_rfl) ?_ _
  refine NoPanic.normal ?_
  have M := Lib.hid (And.intro (And.intro m0 (And.intro m1 m2)) (And.intro m3 (And.intro m4 m5)))
  go_wp2_with fail
  refine (HT.out _ HB4.out).mono ?_
  rintro e w5 ⟨A5, rfl, h5, hb⟩
  have xd0 := (hb.cell (p := ⟨w.heap.size, 0, none⟩) (by show w.heap.size < _; omega)).trans m0
  have xd1 := (hb.cell (p := ⟨w.heap.size, 1, none⟩) (by show w.heap.size < _; omega)).trans m1
  have xd2 := (hb.cell (p := ⟨w.heap.size, 2, none⟩) (by show w.heap.size < _; omega)).trans m2
  have xd3 := (hb.cell (p := ⟨w.heap.size + 1, 0, none⟩) (by show w.heap.size + 1 < _; omega)).trans m3
  have xd4 := (hb.cell (p := ⟨w.heap.size + 1, 1, none⟩) (by show w.heap.size + 1 < _; omega)).trans m4
  have xd5 := (hb.cell (p := ⟨w.heap.size + 1, 2, none⟩) (by show w.heap.size + 1 < _; omega)).trans m5
  have hz5 : w.heap.size + 1 < w5.heap.size := (by have := hb.size; omega)
  have HB5 := Lib.hid (bl_trans HB4.out hb)
  have B45 := Lib.hid hb
  have hs45 := hb.size
  have H5 := Lib.hid h5
  clear hb h5 m0 m1 m2 m3 m4 m5
  go_wp2_with fail
  refine wp_region_noPanic ?_
  refine wp_region_held_drew (S := (fun w' => (w'.cell? ⟨w.heap.size, 0, none⟩ = some (.int .i64 a) ∧ w'.cell? ⟨w.heap.size, 1, none⟩ = some (.int .i64 h) ∧ w'.cell? ⟨w.heap.size, 2, none⟩ = some (.int .i64 c)) ∧ w'.cell? ⟨w.heap.size + 1, 0, none⟩ = some (.int .i64 a') ∧ w'.cell? ⟨w.heap.size + 1, 1, none⟩ = some (.int .i64 h') ∧ w'.cell? ⟨w.heap.size + 1, 2, none⟩ = some (.int .i64 c'))) (by kernel_rfl) (by (try dsimp only); go_keep) (fun hHeld => ?_)
  refine take_of (some 40) (i := 0) (v := ?vq2_0) rfl rfl (by kernel_rfl) (by kernel_rfl) (by kernel_rfl) (fun _ _ _ h => h) (Or.inl ⟨by rfl, ?hyq2_0⟩) (by assumption) ?restq2_0
  case hyq2_0 => (intro w hSw; (try dsimp only at hSw); go_simp; try with_reducible rfl)
  try simp only [Act.put, List.setIfInBounds_toArray, List.set_cons_zero, List.set_cons_succ]
  refine take_of (some 42) (i := 2) (v := ?vq2_2) rfl rfl (by kernel_rfl) (by kernel_rfl) (by kernel_rfl) (fun _ _ _ h => h) (Or.inl ⟨by rfl, ?hyq2_2⟩) (by assumption) ?restq2_2
  case hyq2_2 => (intro w hSw; (try dsimp only at hSw); go_simp; try with_reducible rfl)
  try simp only [Act.put, List.setIfInBounds_toArray, List.set_cons_zero, List.set_cons_succ]
  refine take_of (some 44) (i := 4) (v := ?vq2_4) rfl rfl (by kernel_rfl) (by kernel_rfl) (by kernel_rfl) (fun _ _ _ h => h) (Or.inl ⟨by rfl, ?hyq2_4⟩) (by assumption) ?restq2_4
  case hyq2_4 => (intro w hSw; (try dsimp only at hSw); go_simp; try with_reducible rfl)
  try simp only [Act.put, List.setIfInBounds_toArray, List.set_cons_zero, List.set_cons_succ]
  refine wpAnyH_ready (rs := [1]) (by kernel_rfl) (by simp) ?_
  refine AllReadyH.cons rfl (fun K hK => ?_) AllReadyH.nil
  go_simp
  (go_at_call 15; refine (toMachine_any _ _ _ _).mono ?_; rintro e w6 ⟨rfl, hb0⟩; have hb : Below w5.heap.size w5 w6 := (bl_drew (Below.refl w5.heap.size w5)).trans hb0; have xe0 := (hb.cell (p := ⟨w.heap.size, 0, none⟩) (by show w.heap.size < _; omega)).trans xd0; have xe1 := (hb.cell (p := ⟨w.heap.size, 1, none⟩) (by show w.heap.size < _; omega)).trans xd1; have xe2 := (hb.cell (p := ⟨w.heap.size, 2, none⟩) (by show w.heap.size < _; omega)).trans xd2; have xe3 := (hb.cell (p := ⟨w.heap.size + 1, 0, none⟩) (by show w.heap.size + 1 < _; omega)).trans xd3; have xe4 := (hb.cell (p := ⟨w.heap.size + 1, 1, none⟩) (by show w.heap.size + 1 < _; omega)).trans xd4; have xe5 := (hb.cell (p := ⟨w.heap.size + 1, 2, none⟩) (by show w.heap.size + 1 < _; omega)).trans xd5; have hz6 : w.heap.size + 1 < w6.heap.size := (by have := hb.size; omega); have B56 := Lib.hid hb; clear hb hb0; clear xd0 xd1 xd2 xd3 xd4 xd5)
  go_wp2_with fail
  refine hK.out _ _ (by (try dsimp only); go_keep) (fun hHeld => ?_)
  clear hK K
  try simp only [Act.put, List.setIfInBounds_toArray, List.set_cons_zero, List.set_cons_succ]
  refine wpAnyH_ready (rs := [3]) (by kernel_rfl) (by simp) ?_
  refine AllReadyH.cons rfl (fun K hK => ?_) AllReadyH.nil
  go_simp
  (go_at_call 15; refine (toMachine_any _ _ _ _).mono ?_; rintro e w7 ⟨rfl, hb0⟩; have xf0 := (hb0.cell (p := ⟨w.heap.size, 0, none⟩) (by show w.heap.size < _; omega)).trans xe0; have xf1 := (hb0.cell (p := ⟨w.heap.size, 1, none⟩) (by show w.heap.size < _; omega)).trans xe1; have xf2 := (hb0.cell (p := ⟨w.heap.size, 2, none⟩) (by show w.heap.size < _; omega)).trans xe2; have xf3 := (hb0.cell (p := ⟨w.heap.size + 1, 0, none⟩) (by show w.heap.size + 1 < _; omega)).trans xe3; have xf4 := (hb0.cell (p := ⟨w.heap.size + 1, 1, none⟩) (by show w.heap.size + 1 < _; omega)).trans xe4; have xf5 := (hb0.cell (p := ⟨w.heap.size + 1, 2, none⟩) (by show w.heap.size + 1 < _; omega)).trans xe5; have hz7 : w.heap.size + 1 < w7.heap.size := (by have := hb0.size; omega); have hb := bl_trans B56.out hb0; have HB7 := Lib.hid (bl_trans HB5.out hb); have B47 := Lib.hid (bl_trans B45.out hb); have hs57 := hb.size; have H57 := Lib.hid (H5.out.below hb); have HO7 := Lib.hid (H5.out.below hb).rd; clear hb hb0; clear xe0 xe1 xe2 xe3 xe4 xe5)
  go_wp2_with fail
  refine hK.out _ _ (by (try dsimp only); go_keep) (fun hHeld => ?_)
  clear hK K
  try simp only [Act.put, List.setIfInBounds_toArray, List.set_cons_zero, List.set_cons_succ]
  refine wpAnyH_ready (rs := [5]) (by kernel_rfl) (by simp) ?_
  refine AllReadyH.cons rfl (fun K hK => ?_) AllReadyH.nil
  go_simp
  (go_at_call 43; refine (H2.out _ _ HO7.out hn2).mono ?_; rintro e w8 ⟨A8, cap8, rfl, hg8, hb⟩; have xg0 := (hb.cell (p := ⟨w.heap.size, 0, none⟩) (by show w.heap.size < _; omega)).trans xf0; have xg1 := (hb.cell (p := ⟨w.heap.size, 1, none⟩) (by show w.heap.size < _; omega)).trans xf1; have xg2 := (hb.cell (p := ⟨w.heap.size, 2, none⟩) (by show w.heap.size < _; omega)).trans xf2; have xg3 := (hb.cell (p := ⟨w.heap.size + 1, 0, none⟩) (by show w.heap.size + 1 < _; omega)).trans xf3; have xg4 := (hb.cell (p := ⟨w.heap.size + 1, 1, none⟩) (by show w.heap.size + 1 < _; omega)).trans xf4; have xg5 := (hb.cell (p := ⟨w.heap.size + 1, 2, none⟩) (by show w.heap.size + 1 < _; omega)).trans xf5; have HB8 := Lib.hid (bl_trans HB7.out hb); have B48 := Lib.hid (bl_trans B47.out hb); have hs78 := hb.size; have H58 := Lib.hid (H57.out.below hb); have HG8 := Lib.hid hg8; have HR8 := Lib.hid (HR0.out.below B48.out); clear hb hg8; clear xf0 xf1 xf2 xf3 xf4 xf5)
  go_wp2_with fail
  refine hK.out _ _ (by (try dsimp only); go_keep) (fun hHeld => ?_)
  clear hK K
  try simp only [Act.put, List.setIfInBounds_toArray, List.set_cons_zero, List.set_cons_succ]
  refine take_of (some 39) (i := 6) (v := ?vq2_6) rfl rfl (by kernel_rfl) (by kernel_rfl) (by kernel_rfl) (fun _ _ _ h => h) (Or.inl ⟨by rfl, ?hyq2_6⟩) (by assumption) ?restq2_6
  case hyq2_6 => (intro w hSw; (try dsimp only at hSw); go_simp; try with_reducible rfl)
  try simp only [Act.put, List.setIfInBounds_toArray, List.set_cons_zero, List.set_cons_succ]
  refine take_of (some 46) (i := 7) (v := ?vq2_7) rfl rfl (by kernel_rfl) (by kernel_rfl) (by kernel_rfl) (fun _ _ _ h => h) (Or.inl ⟨by rfl, ?hyq2_7⟩) (by assumption) ?restq2_7
  case hyq2_7 => (intro w hSw; (try dsimp only at hSw); go_simp; try with_reducible rfl)
  try simp only [Act.put, List.setIfInBounds_toArray, List.set_cons_zero, List.set_cons_succ]
  refine take_of (some 47) (i := 8) (v := ?vq2_8) rfl rfl (by kernel_rfl) (by kernel_rfl) (by kernel_rfl) (fun _ _ _ h => h) (Or.inl ⟨by rfl, ?hyq2_8⟩) (by assumption) ?restq2_8
  case hyq2_8 => (intro w hSw; (try dsimp only at hSw); go_simp; try with_reducible rfl)
  try simp only [Act.put, List.setIfInBounds_toArray, List.set_cons_zero, List.set_cons_succ]
  refine take_of (some 48) (i := 9) (v := ?vq2_9) rfl rfl (by kernel_rfl) (by kernel_rfl) (by kernel_rfl) (fun _ _ _ h => h) (Or.inl ⟨by rfl, ?hyq2_9⟩) (by assumption) ?restq2_9
  case hyq2_9 => (intro w hSw; (try dsimp only at hSw); go_simp; try with_reducible rfl)
  try simp only [Act.put, List.setIfInBounds_toArray, List.set_cons_zero, List.set_cons_succ]
  refine take_of (some 12) (i := 10) (v := ?vq2_10) rfl rfl (by kernel_rfl) (by kernel_rfl) (by kernel_rfl) (fun _ _ _ h => h) (Or.inl ⟨by rfl, ?hyq2_10⟩) (by assumption) ?restq2_10
  case hyq2_10 => (intro w hSw; (try dsimp only at hSw); go_simp; try with_reducible rfl)
  try simp only [Act.put, List.setIfInBounds_toArray, List.set_cons_zero, List.set_cons_succ]
  refine take_of (some 13) (i := 11) (v := ?vq2_11) rfl rfl (by kernel_rfl) (by kernel_rfl) (by kernel_rfl) (fun _ _ _ h => h) (Or.inl ⟨by rfl, ?hyq2_11⟩) (by assumption) ?restq2_11
  case hyq2_11 => (intro w hSw; (try dsimp only at hSw); go_simp; try with_reducible rfl)
  try simp only [Act.put, List.setIfInBounds_toArray, List.set_cons_zero, List.set_cons_succ]
  refine take_of (some 14) (i := 12) (v := ?vq2_12) rfl rfl (by kernel_rfl) (by kernel_rfl) (by kernel_rfl) (fun _ _ _ h => h) (Or.inl ⟨by rfl, ?hyq2_12⟩) (by assumption) ?restq2_12
  case hyq2_12 => (intro w hSw; (try dsimp only at hSw); go_simp; try with_reducible rfl)
  try simp only [Act.put, List.setIfInBounds_toArray, List.set_cons_zero, List.set_cons_succ]
  refine wpAnyH_done (by kernel_rfl) ?_ _
  refine NoPanic.normal ?_
  clear xg0 xg1 xg2 xg3 xg4 xg5
  go_wp2_with fail
  refine (eqIntS_any _ _ _ _ _ _ _ _ _ _ _ HG8.out.rd HR8.out (by unfold maxLen; omega) (by unfold maxLen; omega)).mono ?_
  rintro e w9 ⟨rfl, m1, rfl⟩
  rw [heq.out]
  go_wp2_with fail
  refine (HT.out _ (bl_drewN HB8.out m1)).mono ?_
  rintro e w10 ⟨A10, rfl, h10, hb⟩
  have B8 := Lib.hid (show Below w8.heap.size w8 w10 from bl_und hb)
  clear hb
  go_wp2_with fail
  refine (eqCstS_same _ _ _ _ _ _ _ xs _ (H58.out.below B8.out).rd h10.rd (Nat.le_refl _) (Nat.le_refl _) HN.out).mono ?_
  rintro e w11 ⟨rfl, hb⟩
  have B811 := Lib.hid (bl_trans B8.out hb)
  clear hb h10
  go_wp2_with fail
  refine (markCstS_row _ _ _ _ xs 1 _ (show WrT cCst 2 w11 _ A5 n xs from H58.out.below B811.out) hn2 (by omega) (by omega)).mono ?_
  rintro e w14 ⟨rfl, ⟨row, hgr, hrow⟩, hs14⟩
  have hs811 : w8.heap.size ≤ w11.heap.size := B811.out.size
  have hs1114 : w11.heap.size = w14.heap.size := hs14
  have HROW := Lib.hid (show ∀ k, row = some k → w4.heap.size ≤ k ∧ k < w5.heap.size from fun k hk => wrT_rowOf H5.out (hrow k hk))
  have HG15 := Lib.hid (show Wr w14 w7.heap.size A8 _ L from wr_row (show Wr w11 w7.heap.size A8 _ L from HG8.out.below B811.out) hgr (fun k hk => by have := (HROW.out k hk).2; omega))
  have B415 := Lib.hid (show Below w4.heap.size w4 w14 from (bl_trans B48.out B811.out).trans (gr_belowR hgr (fun k hk => (HROW.out k hk).1) (by omega)))
  have HR15 := Lib.hid (HR0.out.below B415.out)
  have hs415 := B415.out.size
  have hkn : ¬ (1 : Int) + 2 * (n : Int) < 0 := by omega
  clear hgr hrow hs14
  go_wp2_with fail
  refine (eqIntS_any _ _ _ _ _ _ _ _ _ _ _ HG15.out.rd HR15.out (by unfold maxLen; omega) (by unfold maxLen; omega)).mono ?_
  rintro e w16 ⟨rfl, m3, rfl⟩
  rw [heq.out]
  go_wp2_with fail
  refine (markIntS_any _ _ _ _ _ _ _ (show Wr (w14.drewN m3) w7.heap.size A8 _ _ from HG15.out) (by omega) (by omega) (by omega)).mono ?_
  rintro e w17 ⟨rfl, hg17, hb17, hs17⟩
  have HG17 := Lib.hid hg17
  have B417 := Lib.hid (show Below w4.heap.size w4 w17 from B415.out.trans ((show Below w7.heap.size w14 w17 from bl_und hb17).mono (by omega)))
  have HW17 := Lib.hid (bl_trans HB4.out B417.out)
  have HR17 := Lib.hid (HR0.out.below B417.out)
  clear hg17 hb17 hs17
  go_wp2_with fail
  refine (heldIntS_any _ _ _ _ _ _ HG17.out.rd (by omega) (by omega) (by omega)).mono ?_
  rintro e w18 ⟨rfl, rfl⟩
  have hs417 := B417.out.size
  have y0 := (B417.out.cell (p := ⟨w.heap.size, 0, none⟩) (by show w.heap.size < _; omega)).trans M.out.1.1
  have y1 := (B417.out.cell (p := ⟨w.heap.size, 1, none⟩) (by show w.heap.size < _; omega)).trans M.out.1.2.1
  have y2 := (B417.out.cell (p := ⟨w.heap.size, 2, none⟩) (by show w.heap.size < _; omega)).trans M.out.1.2.2
  have y3 := (B417.out.cell (p := ⟨w.heap.size + 1, 0, none⟩) (by show w.heap.size + 1 < _; omega)).trans M.out.2.1
  have y4 := (B417.out.cell (p := ⟨w.heap.size + 1, 1, none⟩) (by show w.heap.size + 1 < _; omega)).trans M.out.2.2.1
  have y5 := (B417.out.cell (p := ⟨w.heap.size + 1, 2, none⟩) (by show w.heap.size + 1 < _; omega)).trans M.out.2.2.2
  have hz17 : w.heap.size + 1 < w17.heap.size := by omega
  go_wp2_with fail
  refine wp_region_noPanic ?_
  refine wp_region_held_drew (S := (fun w' => (w'.cell? ⟨w.heap.size, 0, none⟩ = some (.int .i64 a) ∧ w'.cell? ⟨w.heap.size, 1, none⟩ = some (.int .i64 h) ∧ w'.cell? ⟨w.heap.size, 2, none⟩ = some (.int .i64 c)) ∧ w'.cell? ⟨w.heap.size + 1, 0, none⟩ = some (.int .i64 a') ∧ w'.cell? ⟨w.heap.size + 1, 1, none⟩ = some (.int .i64 h') ∧ w'.cell? ⟨w.heap.size + 1, 2, none⟩ = some (.int .i64 c'))) (by kernel_rfl) (by (try dsimp only); go_keep) (fun hHeld => ?_)
  refine take_of (some 101) (i := 0) (v := ?vq3_0) rfl rfl (by kernel_rfl) (by kernel_rfl) (by kernel_rfl) (fun _ _ _ h => h) (Or.inl ⟨by rfl, ?hyq3_0⟩) (by assumption) ?restq3_0
  case hyq3_0 => (intro w hSw; (try dsimp only at hSw); go_simp; try with_reducible rfl)
  try simp only [Act.put, List.setIfInBounds_toArray, List.set_cons_zero, List.set_cons_succ]
  refine take_of (some 103) (i := 2) (v := ?vq3_2) rfl rfl (by kernel_rfl) (by kernel_rfl) (by kernel_rfl) (fun _ _ _ h => h) (Or.inl ⟨by rfl, ?hyq3_2⟩) (by assumption) ?restq3_2
  case hyq3_2 => (intro w hSw; (try dsimp only at hSw); go_simp; try with_reducible rfl)
  try simp only [Act.put, List.setIfInBounds_toArray, List.set_cons_zero, List.set_cons_succ]
  refine take_of (some 105) (i := 4) (v := ?vq3_4) rfl rfl (by kernel_rfl) (by kernel_rfl) (by kernel_rfl) (fun _ _ _ h => h) (Or.inl ⟨by rfl, ?hyq3_4⟩) (by assumption) ?restq3_4
  case hyq3_4 => (intro w hSw; (try dsimp only at hSw); go_simp; try with_reducible rfl)
  try simp only [Act.put, List.setIfInBounds_toArray, List.set_cons_zero, List.set_cons_succ]
  refine wpAnyH_ready (rs := [1]) (by kernel_rfl) (by simp) ?_
  refine AllReadyH.cons rfl (fun K hK => ?_) AllReadyH.nil
  go_simp
  (go_at_call 15; refine (toMachine_any _ _ _ _).mono ?_; rintro e wa ⟨rfl, hb0⟩; have hb : Below w17.heap.size w17 wa := (bl_drew (Below.refl w17.heap.size w17)).trans hb0; have ya0 := (hb.cell (p := ⟨w.heap.size, 0, none⟩) (by show w.heap.size < _; omega)).trans y0; have ya1 := (hb.cell (p := ⟨w.heap.size, 1, none⟩) (by show w.heap.size < _; omega)).trans y1; have ya2 := (hb.cell (p := ⟨w.heap.size, 2, none⟩) (by show w.heap.size < _; omega)).trans y2; have ya3 := (hb.cell (p := ⟨w.heap.size + 1, 0, none⟩) (by show w.heap.size + 1 < _; omega)).trans y3; have ya4 := (hb.cell (p := ⟨w.heap.size + 1, 1, none⟩) (by show w.heap.size + 1 < _; omega)).trans y4; have ya5 := (hb.cell (p := ⟨w.heap.size + 1, 2, none⟩) (by show w.heap.size + 1 < _; omega)).trans y5; have hza : w.heap.size + 1 < wa.heap.size := (by have := hb.size; omega); have BA := Lib.hid hb; clear hb hb0; clear y0 y1 y2 y3 y4 y5)
  go_wp2_with fail
  refine hK.out _ _ (by (try dsimp only); go_keep) (fun hHeld => ?_)
  clear hK K
  try simp only [Act.put, List.setIfInBounds_toArray, List.set_cons_zero, List.set_cons_succ]
  refine wpAnyH_ready (rs := [3]) (by kernel_rfl) (by simp) ?_
  refine AllReadyH.cons rfl (fun K hK => ?_) AllReadyH.nil
  go_simp
  (go_at_call 15; refine (toMachine_any _ _ _ _).mono ?_; rintro e w19 ⟨rfl, hb0⟩; have yb0 := (hb0.cell (p := ⟨w.heap.size, 0, none⟩) (by show w.heap.size < _; omega)).trans ya0; have yb1 := (hb0.cell (p := ⟨w.heap.size, 1, none⟩) (by show w.heap.size < _; omega)).trans ya1; have yb2 := (hb0.cell (p := ⟨w.heap.size, 2, none⟩) (by show w.heap.size < _; omega)).trans ya2; have yb3 := (hb0.cell (p := ⟨w.heap.size + 1, 0, none⟩) (by show w.heap.size + 1 < _; omega)).trans ya3; have yb4 := (hb0.cell (p := ⟨w.heap.size + 1, 1, none⟩) (by show w.heap.size + 1 < _; omega)).trans ya4; have yb5 := (hb0.cell (p := ⟨w.heap.size + 1, 2, none⟩) (by show w.heap.size + 1 < _; omega)).trans ya5; have hzb : w.heap.size + 1 < w19.heap.size := (by have := hb0.size; omega); have BB := Lib.hid (bl_trans BA.out hb0); clear hb0; clear ya0 ya1 ya2 ya3 ya4 ya5)
  go_wp2_with fail
  refine hK.out _ _ (by (try dsimp only); go_keep) (fun hHeld => ?_)
  clear hK K
  try simp only [Act.put, List.setIfInBounds_toArray, List.set_cons_zero, List.set_cons_succ]
  refine wpAnyH_ready (rs := [5]) (by kernel_rfl) (by simp) ?_
  refine AllReadyH.cons rfl (fun K hK => ?_) AllReadyH.nil
  go_simp
  (go_at_call 22; refine (HT.out _ (bl_trans HW17.out BB.out)).mono ?_; rintro e w20 ⟨A20, rfl, h20, hb⟩; have yc0 := (hb.cell (p := ⟨w.heap.size, 0, none⟩) (by show w.heap.size < _; omega)).trans yb0; have yc1 := (hb.cell (p := ⟨w.heap.size, 1, none⟩) (by show w.heap.size < _; omega)).trans yb1; have yc2 := (hb.cell (p := ⟨w.heap.size, 2, none⟩) (by show w.heap.size < _; omega)).trans yb2; have yc3 := (hb.cell (p := ⟨w.heap.size + 1, 0, none⟩) (by show w.heap.size + 1 < _; omega)).trans yb3; have yc4 := (hb.cell (p := ⟨w.heap.size + 1, 1, none⟩) (by show w.heap.size + 1 < _; omega)).trans yb4; have yc5 := (hb.cell (p := ⟨w.heap.size + 1, 2, none⟩) (by show w.heap.size + 1 < _; omega)).trans yb5; have hzc : w.heap.size + 1 < w20.heap.size := (by have := hb.size; omega); have B21 := Lib.hid (bl_trans BB.out hb); have HO21 := Lib.hid h20.rd; clear hb h20; clear yb0 yb1 yb2 yb3 yb4 yb5)
  go_wp2_with fail
  refine hK.out _ _ (by (try dsimp only); go_keep) (fun hHeld => ?_)
  clear hK K
  try simp only [Act.put, List.setIfInBounds_toArray, List.set_cons_zero, List.set_cons_succ]
  refine wpAnyH_ready (rs := [6]) (by kernel_rfl) (by simp) ?_
  refine AllReadyH.cons rfl (fun K hK => ?_) AllReadyH.nil
  go_simp
  (go_at_call 43; refine (H2.out _ _ HO21.out hn2).mono ?_; rintro e w22 ⟨A22, cap22, rfl, hh22, hb⟩; have yd0 := (hb.cell (p := ⟨w.heap.size, 0, none⟩) (by show w.heap.size < _; omega)).trans yc0; have yd1 := (hb.cell (p := ⟨w.heap.size, 1, none⟩) (by show w.heap.size < _; omega)).trans yc1; have yd2 := (hb.cell (p := ⟨w.heap.size, 2, none⟩) (by show w.heap.size < _; omega)).trans yc2; have yd3 := (hb.cell (p := ⟨w.heap.size + 1, 0, none⟩) (by show w.heap.size + 1 < _; omega)).trans yc3; have yd4 := (hb.cell (p := ⟨w.heap.size + 1, 1, none⟩) (by show w.heap.size + 1 < _; omega)).trans yc4; have yd5 := (hb.cell (p := ⟨w.heap.size + 1, 2, none⟩) (by show w.heap.size + 1 < _; omega)).trans yc5; have B22 := Lib.hid (show Below w17.heap.size w17 w22 from bl_trans B21.out hb); have HH22 := Lib.hid hh22; have HR22 := Lib.hid (HR17.out.below (B22.out.mono (by omega))); have HG22 := Lib.hid (HG17.out.below B22.out); clear hb hh22; clear yc0 yc1 yc2 yc3 yc4 yc5)
  go_wp2_with fail
  refine hK.out _ _ (by (try dsimp only); go_keep) (fun hHeld => ?_)
  clear hK K
  try simp only [Act.put, List.setIfInBounds_toArray, List.set_cons_zero, List.set_cons_succ]
  refine take_of (some 100) (i := 7) (v := ?vq3_7) rfl rfl (by kernel_rfl) (by kernel_rfl) (by kernel_rfl) (fun _ _ _ h => h) (Or.inl ⟨by rfl, ?hyq3_7⟩) (by assumption) ?restq3_7
  case hyq3_7 => (intro w hSw; (try dsimp only at hSw); go_simp; try with_reducible rfl)
  try simp only [Act.put, List.setIfInBounds_toArray, List.set_cons_zero, List.set_cons_succ]
  refine take_of (some 108) (i := 8) (v := ?vq3_8) rfl rfl (by kernel_rfl) (by kernel_rfl) (by kernel_rfl) (fun _ _ _ h => h) (Or.inl ⟨by rfl, ?hyq3_8⟩) (by assumption) ?restq3_8
  case hyq3_8 => (intro w hSw; (try dsimp only at hSw); go_simp; try with_reducible rfl)
  try simp only [Act.put, List.setIfInBounds_toArray, List.set_cons_zero, List.set_cons_succ]
  refine take_of (some 109) (i := 9) (v := ?vq3_9) rfl rfl (by kernel_rfl) (by kernel_rfl) (by kernel_rfl) (fun _ _ _ h => h) (Or.inl ⟨by rfl, ?hyq3_9⟩) (by assumption) ?restq3_9
  case hyq3_9 => (intro w hSw; (try dsimp only at hSw); go_simp; try with_reducible rfl)
  try simp only [Act.put, List.setIfInBounds_toArray, List.set_cons_zero, List.set_cons_succ]
  refine take_of (some 110) (i := 10) (v := ?vq3_10) rfl rfl (by kernel_rfl) (by kernel_rfl) (by kernel_rfl) (fun _ _ _ h => h) (Or.inl ⟨by rfl, ?hyq3_10⟩) (by assumption) ?restq3_10
  case hyq3_10 => (intro w hSw; (try dsimp only at hSw); go_simp; try with_reducible rfl)
  try simp only [Act.put, List.setIfInBounds_toArray, List.set_cons_zero, List.set_cons_succ]
  refine take_of (some 18) (i := 11) (v := ?vq3_11) rfl rfl (by kernel_rfl) (by kernel_rfl) (by kernel_rfl) (fun _ _ _ h => h) (Or.inl ⟨by rfl, ?hyq3_11⟩) (by assumption) ?restq3_11
  case hyq3_11 => (intro w hSw; (try dsimp only at hSw); go_simp; try with_reducible rfl)
  try simp only [Act.put, List.setIfInBounds_toArray, List.set_cons_zero, List.set_cons_succ]
  refine take_of (some 19) (i := 12) (v := ?vq3_12) rfl rfl (by kernel_rfl) (by kernel_rfl) (by kernel_rfl) (fun _ _ _ h => h) (Or.inl ⟨by rfl, ?hyq3_12⟩) (by assumption) ?restq3_12
  case hyq3_12 => (intro w hSw; (try dsimp only at hSw); go_simp; try with_reducible rfl)
  try simp only [Act.put, List.setIfInBounds_toArray, List.set_cons_zero, List.set_cons_succ]
  refine take_of (some 20) (i := 13) (v := ?vq3_13) rfl rfl (by kernel_rfl) (by kernel_rfl) (by kernel_rfl) (fun _ _ _ h => h) (Or.inl ⟨by rfl, ?hyq3_13⟩) (by assumption) ?restq3_13
  case hyq3_13 => (intro w hSw; (try dsimp only at hSw); go_simp; try with_reducible rfl)
  try simp only [Act.put, List.setIfInBounds_toArray, List.set_cons_zero, List.set_cons_succ]
  refine wpAnyH_done (by kernel_rfl) ?_ _
  refine NoPanic.normal ?_
  clear yd0 yd1 yd2 yd3 yd4 yd5
  go_wp2_with fail
  refine (eqIntS_any _ _ _ _ _ _ _ _ _ _ _ HH22.out.rd HR22.out (by unfold maxLen; omega) (by unfold maxLen; omega)).mono ?_
  rintro e w23 ⟨rfl, m4, rfl⟩
  rw [heq.out]
  go_wp2_with fail
  refine (heldIntS_any _ _ _ _ _ _ (show Rd cI 1 (w22.drewN m4) w22.heap.size A8 _ _ from HG22.out.rd) (by omega) (by omega) (by omega)).mono ?_
  rintro e w24 ⟨rfl, rfl⟩
  go_wp2
  go_ret
  exact ⟨rfl, bl_drewN (bl_trans HW17.out B22.out) m4⟩
end Go.Proofs.Ytabmhmbmdegoaaa
