/-
  ShareOfMachines: the implementation's contract.
-/
import Derived.Test.YtabmhmbmdegoaaaSh6
import Derived.Lib.SmallJoins
import Derived.Laws.EntriesVeiled
namespace Go.Proofs.Ytabmhmbmdegoaaa
open Go.RowKit
set_option linter.unusedVariables false
attribute [local go_sem ↓] Go.wp_at_zero Go.wp_at_succ

theorem cell_mid {w w' : World} {v : Value} {t : TypeId} (hb : Below (w.alloc (.cells #[v] t)).heap.size (w.alloc (.cells #[v] t)) w') {k : Nat} (hk : k = w.heap.size) : w'.cell? ⟨k, 0, none⟩ = some v := by
  subst hk
  exact (hb.cell (p := ⟨w.heap.size, 0, none⟩) (by show w.heap.size < _; simp)).trans (Go.Joins.cell_alloc_mark_at w #[v] t (0, 0) _ 0 rfl)
theorem frozen_mid {w w' : World} {v : Value} {t : TypeId} (hb : Below (w.alloc (.cells #[v] t)).heap.size (w.alloc (.cells #[v] t)) w') {k : Nat} (hk : k = w.heap.size) : w'.frozen? ⟨k, 0, none⟩ = false := by
  subst hk
  exact (hb.frozen (p := ⟨w.heap.size, 0, none⟩) (by show w.heap.size < _; simp)).trans (World.frozen?_alloc_new _ _ _ _)
set_option maxHeartbeats 4000000 in
theorem implSM_any (a h c a' h' c' : Int) (A : Option Addr) (n cp : Nat) (xs : List Cst) (w : World) (hr : Rd cCst 2 w w.heap.size A n xs) (hn : n ≤ 1048576) :
    Calls Try.prog 43 #[.agg #[.int .i64 a, .int .i64 h, .int .i64 c], .agg #[.int .i64 a', .int .i64 h', .int .i64 c'], .slice A n cp] w (RetT (smS a h c a' h' c' xs).1 (smS a h c a' h' c' xs).2 (smB a h c a' h' c' xs) w) := by
  have hl := hr.1
  rcases sm_parts a h c a' h' c' xs with ⟨h1, hB⟩ | ⟨h1, h1', hB⟩ | ⟨h1, h1', h2, hB⟩ | ⟨h1, h1', h2, hB⟩
  · rw [smS_no hB, hB]
    have H1 := Lib.hid h1
    clear h1 hB
    go_enter Try.func43, Try.ntmps43
    go_wp2_with (go_at_call 16; refine (implIsMachine_any _ _ _ _).mono ?_; rw [H1.out]; rintro e w1 ⟨rfl, hb⟩)
    go_ret3
    exact rett_nil rfl (by repeat (first | (with_reducible exact Below.refl _ _) | (with_reducible assumption) | (with_reducible refine bl_alloc ?_ _) | (with_reducible refine bl_drew ?_) | (with_reducible refine bl_drewN ?_ _) | ((with_reducible refine bl_set ?_ ?hb _); (case hb => first | (simp; done) | omega | (simp; omega))) | (with_reducible refine bl_trans ?_ (by assumption)))) _ _
  · rw [smS_no hB, hB]
    have H1 := Lib.hid h1
    have H2 := Lib.hid h1'
    clear h1 h1' hB
    go_enter Try.func43, Try.ntmps43
    go_wp2_with fail
    refine (implIsMachine_any _ _ _ _).mono ?_
    rw [H1.out]
    rintro e w1 ⟨rfl, hb⟩
    obtain ⟨hc0, hf0, hz0⟩ := bl_at hb (k := w.heap.size) (by first | assumption | (simp; done) | (simp; omega)); obtain ⟨hc1, hf1, hz1⟩ := bl_at hb (k := w.heap.size + 1) (by first | assumption | (simp; done) | (simp; omega)); obtain ⟨hc2, hf2, hz2⟩ := bl_at hb (k := w.heap.size + 1 + 1) (by first | assumption | (simp; done) | (simp; omega))
    have hB1 : Below w.heap.size w w1 := by repeat (first | (with_reducible exact Below.refl _ _) | (with_reducible assumption) | (with_reducible refine bl_alloc ?_ _) | (with_reducible refine bl_drew ?_) | (with_reducible refine bl_drewN ?_ _) | ((with_reducible refine bl_set ?_ ?hb _); (case hb => first | (simp; done) | omega | (simp; omega))) | (with_reducible refine bl_trans ?_ (by assumption)))
    clear hb
    go_wp2_with (go_at_call 16; refine (implIsMachine_any _ _ _ _).mono ?_; rw [H2.out]; rintro e w2 ⟨rfl, hb2⟩)
    go_ret3
    exact rett_nil rfl (bl_trans hB1 (by repeat (first | (with_reducible exact Below.refl _ _) | (with_reducible assumption) | (with_reducible refine bl_alloc ?_ _) | (with_reducible refine bl_drew ?_) | (with_reducible refine bl_drewN ?_ _) | ((with_reducible refine bl_set ?_ ?hb _); (case hb => first | (simp; done) | omega | (simp; omega))) | (with_reducible refine bl_trans ?_ (by assumption))))) _ _
  · rw [smS_no hB, hB]
    have H1 := Lib.hid h1
    have H1' := Lib.hid h1'
    have H2 := Lib.hid h2
    clear h1 h1' h2 hB
    go_enter Try.func43, Try.ntmps43
    go_wp2_with fail
    refine (implIsMachine_any _ _ _ _).mono ?_
    rw [H1.out]
    rintro e w1 ⟨rfl, hb⟩
    obtain ⟨hc0, hf0, hz0⟩ := bl_at hb (k := w.heap.size) (by first | assumption | (simp; done) | (simp; omega)); obtain ⟨hc1, hf1, hz1⟩ := bl_at hb (k := w.heap.size + 1) (by first | assumption | (simp; done) | (simp; omega)); obtain ⟨hc2, hf2, hz2⟩ := bl_at hb (k := w.heap.size + 1 + 1) (by first | assumption | (simp; done) | (simp; omega))
    have hB1 : Below w.heap.size w w1 := by repeat (first | (with_reducible exact Below.refl _ _) | (with_reducible assumption) | (with_reducible refine bl_alloc ?_ _) | (with_reducible refine bl_drew ?_) | (with_reducible refine bl_drewN ?_ _) | ((with_reducible refine bl_set ?_ ?hb _); (case hb => first | (simp; done) | omega | (simp; omega))) | (with_reducible refine bl_trans ?_ (by assumption)))
    clear hb
    go_wp2_with fail
    refine (implIsMachine_any _ _ _ _).mono ?_
    rw [H1'.out]
    rintro e w2 ⟨rfl, hb⟩
    obtain ⟨hc4, hf4, hz4⟩ := bl_at hb (k := w.heap.size + 1 + 1) hz2
    have hB2 := bl_trans hB1 hb
    clear hb
    go_wp2_with (go_at_call 23; refine (implAreCastings_any _ _ _ _ xs _ (hr.below hB2) hB2.size hn).mono ?_; rw [H2.out]; rintro e w3 ⟨rfl, hb2⟩)
    go_ret3
    exact rett_nil rfl (bl_trans hB2 (by repeat (first | (with_reducible exact Below.refl _ _) | (with_reducible assumption) | (with_reducible refine bl_alloc ?_ _) | (with_reducible refine bl_drew ?_) | (with_reducible refine bl_drewN ?_ _) | ((with_reducible refine bl_set ?_ ?hb _); (case hb => first | (simp; done) | omega | (simp; omega))) | (with_reducible refine bl_trans ?_ (by assumption))))) _ _
  · rw [smS_yes hB, hB, hl]
    have hn8 := casts_len h2
    have HMS := Lib.hid (fun pb pm pn pl => sh_any pb pm pn pl a h c a' h' c' A n cp xs (by omega) hl h1 h1' h2 n)
    rw [← sh_all]
    have H1 := Lib.hid h1
    have H1' := Lib.hid h1'
    have H2 := Lib.hid h2
    clear h1 h1' h2 hB
    go_enter Try.func43, Try.ntmps43
    go_wp2_with fail
    refine (implIsMachine_any _ _ _ _).mono ?_
    rw [H1.out]
    rintro e w1 ⟨rfl, hb⟩
    obtain ⟨hc0, hf0, hz0⟩ := bl_at hb (k := w.heap.size) (by first | assumption | (simp; done) | (simp; omega)); obtain ⟨hc1, hf1, hz1⟩ := bl_at hb (k := w.heap.size + 1) (by first | assumption | (simp; done) | (simp; omega)); obtain ⟨hc2, hf2, hz2⟩ := bl_at hb (k := w.heap.size + 1 + 1) (by first | assumption | (simp; done) | (simp; omega))
    have hB1 : Below w.heap.size w w1 := by repeat (first | (with_reducible exact Below.refl _ _) | (with_reducible assumption) | (with_reducible refine bl_alloc ?_ _) | (with_reducible refine bl_drew ?_) | (with_reducible refine bl_drewN ?_ _) | ((with_reducible refine bl_set ?_ ?hb _); (case hb => first | (simp; done) | omega | (simp; omega))) | (with_reducible refine bl_trans ?_ (by assumption)))
    clear hb
    go_wp2_with fail
    refine (implIsMachine_any _ _ _ _).mono ?_
    rw [H1'.out]
    rintro e w2 ⟨rfl, hb⟩
    obtain ⟨ic0, if0, iz0⟩ := bl_at hb (k := w.heap.size) hz0
    obtain ⟨ic1, if1, iz1⟩ := bl_at hb (k := w.heap.size + 1) hz1
    obtain ⟨ic2, if2, iz2⟩ := bl_at hb (k := w.heap.size + 1 + 1) hz2
    have hB2 := bl_trans hB1 hb
    clear hb
    go_wp2_with fail
    refine (implAreCastings_any _ _ _ _ xs _ (hr.below hB2) hB2.size hn).mono ?_
    rw [H2.out]
    rintro e w3 ⟨rfl, hb⟩
    obtain ⟨jc0, jf0, jz0⟩ := bl_at hb (k := w.heap.size) iz0
    obtain ⟨jc1, jf1, jz1⟩ := bl_at hb (k := w.heap.size + 1) iz1
    obtain ⟨jc2, jf2, jz2⟩ := bl_at hb (k := w.heap.size + 1 + 1) iz2
    have hB3 := bl_trans hB2 hb
    clear hb
    go_wp2_with fail
    obtain ⟨k1, k2, k3⟩ := cells3 w #[.int .i64 a, .int .i64 h, .int .i64 c] #[.int .i64 a', .int .i64 h', .int .i64 c'] #[.slice A n cp] 25 25 38
    have hX : Below w3.heap.size w3 (((((w3.alloc (.cells #[] 3)).alloc (.cells #[.slice (some ⟨w3.heap.size, 0, none⟩) 0 0] 42)).alloc (.cells #[.int .i64 (-1)] 3)).alloc (.cells #[(.func (.func 68) #[] #[.pointer (some ⟨w.heap.size + 1 + 1, 0, none⟩), .pointer (some ⟨w3.heap.size + 1 + 1 + 1, 0, none⟩), .pointer (some ⟨w.heap.size, 0, none⟩), .pointer (some ⟨w.heap.size + 1, 0, none⟩), .pointer (some ⟨w3.heap.size + 1 + 1, 0, none⟩), .pointer (some ⟨w3.heap.size + 1, 0, none⟩)])] 77)).alloc (.cells #[] 3)) := by repeat (first | (with_reducible exact Below.refl _ _) | (with_reducible assumption) | (with_reducible refine bl_alloc ?_ _) | (with_reducible refine bl_drew ?_) | (with_reducible refine bl_drewN ?_ _) | ((with_reducible refine bl_set ?_ ?hb _); (case hb => first | (simp; done) | omega | (simp; omega))) | (with_reducible refine bl_trans ?_ (by assumption)))
    obtain ⟨⟨R, r⟩, hR⟩ : ∃ R, sh (shT a h c a' h' c' xs) n [] ([], -1) = R := ⟨_, rfl⟩
    have HRR := Lib.hid hR
    clear hR
    refine (HMS.out (w3.heap.size + 1) w.heap.size (w.heap.size + 1) (w.heap.size + 1 + 1) _ 0 0 [] ([], -1) _ (by simp) ?st (wr_nil _ _ _) (Nat.le_refl _) (by simp)).mono ?_
    case st =>
      refine ⟨by simp, by omega, by omega, by omega, ?_, ?_, ?_, ?_, ?_, ?_, ?_, ?_, ?_, ?_, ?_, ?_, some ⟨w3.heap.size, 0, none⟩, 0, ?_, wr_nil _ _ _⟩
      · exact (hX.cell (p := ⟨w.heap.size, 0, none⟩) jz0).trans ((jc0 0).trans ((ic0 0).trans ((hc0 0).trans (k1 0))))
      · exact (hX.cell (p := ⟨w.heap.size, 1, none⟩) jz0).trans ((jc0 1).trans ((ic0 1).trans ((hc0 1).trans (k1 1))))
      · exact (hX.cell (p := ⟨w.heap.size, 2, none⟩) jz0).trans ((jc0 2).trans ((ic0 2).trans ((hc0 2).trans (k1 2))))
      · exact (hX.cell (p := ⟨w.heap.size + 1, 0, none⟩) jz1).trans ((jc1 0).trans ((ic1 0).trans ((hc1 0).trans (k2 0))))
      · exact (hX.cell (p := ⟨w.heap.size + 1, 1, none⟩) jz1).trans ((jc1 1).trans ((ic1 1).trans ((hc1 1).trans (k2 1))))
      · exact (hX.cell (p := ⟨w.heap.size + 1, 2, none⟩) jz1).trans ((jc1 2).trans ((ic1 2).trans ((hc1 2).trans (k2 2))))
      · exact (hX.cell (p := ⟨w.heap.size + 1 + 1, 0, none⟩) jz2).trans ((jc2 0).trans ((ic2 0).trans ((hc2 0).trans (k3 0))))
      · exact cell_mid (w := (w3.alloc (.cells #[] 3)).alloc (.cells #[.slice (some ⟨w3.heap.size, 0, none⟩) 0 0] 42)) (v := .int .i64 (-1)) (t := 3) (by repeat (first | (with_reducible exact Below.refl _ _) | (with_reducible assumption) | (with_reducible refine bl_alloc ?_ _) | (with_reducible refine bl_drew ?_) | (with_reducible refine bl_drewN ?_ _) | ((with_reducible refine bl_set ?_ ?hb _); (case hb => first | (simp; done) | omega | (simp; omega))) | (with_reducible refine bl_trans ?_ (by assumption)))) (by simp)
      · exact cell_mid (w := ((w3.alloc (.cells #[] 3)).alloc (.cells #[.slice (some ⟨w3.heap.size, 0, none⟩) 0 0] 42)).alloc (.cells #[.int .i64 (-1)] 3)) (v := (.func (.func 68) #[] #[.pointer (some ⟨w.heap.size + 1 + 1, 0, none⟩), .pointer (some ⟨w3.heap.size + 1 + 1 + 1, 0, none⟩), .pointer (some ⟨w.heap.size, 0, none⟩), .pointer (some ⟨w.heap.size + 1, 0, none⟩), .pointer (some ⟨w3.heap.size + 1 + 1, 0, none⟩), .pointer (some ⟨w3.heap.size + 1, 0, none⟩)])) (t := 77) (by repeat (first | (with_reducible exact Below.refl _ _) | (with_reducible assumption) | (with_reducible refine bl_alloc ?_ _) | (with_reducible refine bl_drew ?_) | (with_reducible refine bl_drewN ?_ _) | ((with_reducible refine bl_set ?_ ?hb _); (case hb => first | (simp; done) | omega | (simp; omega))) | (with_reducible refine bl_trans ?_ (by assumption)))) (by simp)
      · exact frozen_mid (w := w3.alloc (.cells #[] 3)) (v := .slice (some ⟨w3.heap.size, 0, none⟩) 0 0) (t := 42) (by repeat (first | (with_reducible exact Below.refl _ _) | (with_reducible assumption) | (with_reducible refine bl_alloc ?_ _) | (with_reducible refine bl_drew ?_) | (with_reducible refine bl_drewN ?_ _) | ((with_reducible refine bl_set ?_ ?hb _); (case hb => first | (simp; done) | omega | (simp; omega))) | (with_reducible refine bl_trans ?_ (by assumption)))) (by simp)
      · exact frozen_mid (w := (w3.alloc (.cells #[] 3)).alloc (.cells #[.slice (some ⟨w3.heap.size, 0, none⟩) 0 0] 42)) (v := .int .i64 (-1)) (t := 3) (by repeat (first | (with_reducible exact Below.refl _ _) | (with_reducible assumption) | (with_reducible refine bl_alloc ?_ _) | (with_reducible refine bl_drew ?_) | (with_reducible refine bl_drewN ?_ _) | ((with_reducible refine bl_set ?_ ?hb _); (case hb => first | (simp; done) | omega | (simp; omega))) | (with_reducible refine bl_trans ?_ (by assumption)))) (by simp)
      · exact ((hr.below hB3).below (hX.mono hB3.size)).more (by have := hB3.size; omega)
      · exact cell_mid (w := w3.alloc (.cells #[] 3)) (v := .slice (some ⟨w3.heap.size, 0, none⟩) 0 0) (t := 42) (by repeat (first | (with_reducible exact Below.refl _ _) | (with_reducible assumption) | (with_reducible refine bl_alloc ?_ _) | (with_reducible refine bl_drew ?_) | (with_reducible refine bl_drewN ?_ _) | ((with_reducible refine bl_set ?_ ?hb _); (case hb => first | (simp; done) | omega | (simp; omega))) | (with_reducible refine bl_trans ?_ (by assumption)))) (by simp)
    rw [HRR.out]
    rintro e w5 ⟨rfl, hs5, hg5, hl5⟩
    obtain ⟨A5, c5, e5, hw5⟩ := hs5.b
    have e6 := hs5.e1
    dsimp only at e5 e6 hw5
    have HW5 := Lib.hid (wr_base hw5 (show w.heap.size ≤ w3.heap.size + 1 + 3 by have := hB3.size; omega))
    have HB5 := Lib.hid ((hB3.trans (hX.mono hB3.size)).trans (fr_below hg5 (show w.heap.size ≤ w3.heap.size + 1 by have := hB3.size; omega) (by have := hB3.size; simp; omega)))
    clear hw5 hs5 hg5
    go_wp2_with fail
    refine wp_region_noPanic ?_
    refine wp_region_held_drew (S := (fun w' => w'.cell? ⟨w3.heap.size + 1, 0, none⟩ = some (.slice A5 R.length c5) ∧ w'.cell? ⟨w3.heap.size + 1 + 1, 0, none⟩ = some (.int .i64 r))) (by kernel_rfl) (by (try dsimp only); go_keep) (fun hHeld => ?_)
    refine take_of (some 31) (i := 0) (v := ?vq1_0) rfl rfl (by kernel_rfl) (by kernel_rfl) (by kernel_rfl) (fun _ _ _ h => h) (Or.inl ⟨by rfl, ?hyq1_0⟩) (by assumption) ?restq1_0
    case hyq1_0 => (intro w hSw; (try dsimp only at hSw); go_simp; try with_reducible rfl)
    try simp only [Act.put, List.setIfInBounds_toArray, List.set_cons_zero, List.set_cons_succ]
    refine take_of (some 32) (i := 1) (v := ?vq1_1) rfl rfl (by kernel_rfl) (by kernel_rfl) (by kernel_rfl) (fun _ _ _ h => h) (Or.inl ⟨by rfl, ?hyq1_1⟩) (by assumption) ?restq1_1
    case hyq1_1 => (intro w hSw; (try dsimp only at hSw); go_simp; try with_reducible rfl)
    try simp only [Act.put, List.setIfInBounds_toArray, List.set_cons_zero, List.set_cons_succ]
    refine take_of (some 6) (i := 2) (v := ?vq1_2) rfl rfl (by kernel_rfl) (by kernel_rfl) (by kernel_rfl) (fun _ _ _ h => h) (Or.inl ⟨by rfl, ?hyq1_2⟩) (by assumption) ?restq1_2
    case hyq1_2 => (intro w hSw; (try dsimp only at hSw); go_simp; try with_reducible rfl)
    try simp only [Act.put, List.setIfInBounds_toArray, List.set_cons_zero, List.set_cons_succ]
    refine take_of (some 7) (i := 3) (v := ?vq1_3) rfl rfl (by kernel_rfl) (by kernel_rfl) (by kernel_rfl) (fun _ _ _ h => h) (Or.inl ⟨by rfl, ?hyq1_3⟩) (by assumption) ?restq1_3
    case hyq1_3 => (intro w hSw; (try dsimp only at hSw); go_simp; try with_reducible rfl)
    try simp only [Act.put, List.setIfInBounds_toArray, List.set_cons_zero, List.set_cons_succ]
    refine take_of (some 8) (i := 4) (v := ?vq1_4) rfl rfl (by kernel_rfl) (by kernel_rfl) (by kernel_rfl) (fun _ _ _ h => h) (Or.inl ⟨by rfl, ?hyq1_4⟩) (by assumption) ?restq1_4
    case hyq1_4 => (intro w hSw; (try dsimp only at hSw); go_simp; try with_reducible rfl)
    try simp only [Act.put, List.setIfInBounds_toArray, List.set_cons_zero, List.set_cons_succ]
    refine wpAnyH_done (by kernel_rfl) ?_ _
    refine NoPanic.normal ?_
    go_wp2
    go_ret3
    rw [HRR.out]
    exact ⟨A5, c5, rfl, HW5.out, bl_drew HB5.out⟩
end Go.Proofs.Ytabmhmbmdegoaaa
