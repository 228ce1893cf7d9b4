/-
  BestCastOrder: the implementation's contract.
-/
import Derived.Test.YtabmhmbmdegoaaaCs21
import Derived.Lib.SmallJoins
namespace Go.Proofs.Ytabmhmbmdegoaaa
open Go.RowKit
set_option linter.unusedVariables false
attribute [local go_sem ↓] Go.wp_at_zero Go.wp_at_succ

theorem cells2 (w : World) (C1 C2 : Array Value) (t1 t2 : TypeId) : (∀ o, ((w.alloc (.cells C1 t1)).alloc (.cells C2 t2)).cell? ⟨w.heap.size, o, none⟩ = C1[o]?) ∧ (∀ o, ((w.alloc (.cells C1 t1)).alloc (.cells C2 t2)).cell? ⟨w.heap.size + 1, o, none⟩ = C2[o]?) := by
  have b1 : Below (w.alloc (.cells C1 t1)).heap.size (w.alloc (.cells C1 t1)) ((w.alloc (.cells C1 t1)).alloc (.cells C2 t2)) := by repeat (first | (with_reducible exact Below.refl _ _) | (with_reducible assumption) | (with_reducible refine bl_alloc ?_ _) | (with_reducible refine bl_drew ?_) | (with_reducible refine bl_drewN ?_ _) | ((with_reducible refine bl_set ?_ ?hb _); (case hb => first | (simp; done) | omega | (simp; omega))) | (with_reducible refine bl_trans ?_ (by assumption)))
  have e1 : (w.alloc (.cells C1 t1)).heap.size = w.heap.size + 1 := by simp
  exact ⟨fun o => (b1.cell (p := ⟨w.heap.size, o, none⟩) (by show w.heap.size < _; omega)).trans (Go.Joins.cell_alloc_mark_at w C1 t1 (0, 0) _ o rfl), fun o => Go.Joins.cell_alloc_mark_at _ C2 t2 (0, 0) _ o e1.symm⟩
theorem cell_new4 (w : World) (v u : Value) (t1 t2 : TypeId) (o1 o2 : Obj) : ((((w.alloc o1).alloc (.cells #[u] t1)).alloc (.cells #[v] t2)).alloc o2).cell? ⟨w.heap.size + 1 + 1, 0, none⟩ = some v := by
  have := cell_new3 (w.alloc o1) v t2 (.cells #[u] t1) o2
  simpa using this
theorem cell_new4b (w : World) (v u : Value) (t1 t2 : TypeId) (o1 o2 : Obj) : ((((w.alloc o1).alloc (.cells #[u] t1)).alloc (.cells #[v] t2)).alloc o2).cell? ⟨w.heap.size + 1, 0, none⟩ = some u := by
  have e1 : ((w.alloc o1).alloc (.cells #[u] t1)).heap.size = w.heap.size + 1 + 1 := by simp
  have b : Below ((w.alloc o1).alloc (.cells #[u] t1)).heap.size ((w.alloc o1).alloc (.cells #[u] t1)) ((((w.alloc o1).alloc (.cells #[u] t1)).alloc (.cells #[v] t2)).alloc o2) := by repeat (first | (with_reducible exact Below.refl _ _) | (with_reducible assumption) | (with_reducible refine bl_alloc ?_ _) | (with_reducible refine bl_drew ?_) | (with_reducible refine bl_drewN ?_ _) | ((with_reducible refine bl_set ?_ ?hb _); (case hb => first | (simp; done) | omega | (simp; omega))) | (with_reducible refine bl_trans ?_ (by assumption)))
  have e2 : (w.alloc o1).heap.size = w.heap.size + 1 := by simp
  exact (b.cell (p := ⟨w.heap.size + 1, 0, none⟩) (by show w.heap.size + 1 < _; omega)).trans (Go.Joins.cell_alloc_mark_at _ #[u] t1 (0, 0) _ 0 e2.symm)
theorem frozen_new4 (w : World) (v u : Value) (t1 t2 : TypeId) (o1 o2 : Obj) : ((((w.alloc o1).alloc (.cells #[u] t1)).alloc (.cells #[v] t2)).alloc o2).frozen? ⟨w.heap.size + 1, 0, none⟩ = false := by
  have := frozen_new3 w u t1 o1 (.cells #[v] t2)
  have b : Below (((w.alloc o1).alloc (.cells #[u] t1)).alloc (.cells #[v] t2)).heap.size (((w.alloc o1).alloc (.cells #[u] t1)).alloc (.cells #[v] t2)) ((((w.alloc o1).alloc (.cells #[u] t1)).alloc (.cells #[v] t2)).alloc o2) := by repeat (first | (with_reducible exact Below.refl _ _) | (with_reducible assumption) | (with_reducible refine bl_alloc ?_ _) | (with_reducible refine bl_drew ?_) | (with_reducible refine bl_drewN ?_ _) | ((with_reducible refine bl_set ?_ ?hb _); (case hb => first | (simp; done) | omega | (simp; omega))) | (with_reducible refine bl_trans ?_ (by assumption)))
  exact (b.frozen (p := ⟨w.heap.size + 1, 0, none⟩) (by show w.heap.size + 1 < _; simp)).trans this
theorem frozen_new4b (w : World) (v u : Value) (t1 t2 : TypeId) (o1 o2 : Obj) : ((((w.alloc o1).alloc (.cells #[u] t1)).alloc (.cells #[v] t2)).alloc o2).frozen? ⟨w.heap.size + 1 + 1, 0, none⟩ = false := by
  have := frozen_new3 (w.alloc o1) v t2 (.cells #[u] t1) o2
  simpa using this
theorem tmV_pos {a h c : Int} {xs : List Cst} (hm : machB a h c = true) (hx : castsB xs = true) (L : List Int) : 0 ≤ tmV a h c xs L := (csTo_ok (os := L) hm (casts_each hx) L.length).2.1.1
theorem best_same {a h c : Int} {xs : List Cst} (hm : machB a h c = true) (hx : castsB xs = true) (n : Nat) : bs n (tmV a h c xs) n [] ([], 0) = eo n (bStep n (tmV a h c xs)) n [] ([], -1) := by
  rcases Nat.eq_zero_or_pos n with h0 | h0
  · subst h0
    rw [bs0_old (by simp [tmV_nil])]
    show _ = bStep 0 _ ([], -1) []
    rw [bStep_new (by simp) (.inl (by decide)), tmV_nil]
  · have hR : bR n (([] : List Int), (0 : Int)) ([], -1) := ⟨rfl, fun h => absurd h (by show ¬ 0 = n; omega), fun _ => ⟨by show 0 < n; omega, by decide⟩⟩
    have r := bs_eo (tmV_mono hm hx) (tmV_pos hm hx) n [] ([], 0) ([], -1) (by simp) hR
    have e := bs_all (n := n) (t := tmV a h c xs) n [] ([], 0) (by simp) (by simp)
    exact Prod.ext r.1 (r.2.1 e).1
set_option maxHeartbeats 4000000 in
theorem implBC_any (a h c : Int) (A : Option Addr) (n cp : Nat) (xs : List Cst) (w : World) (hr : Rd cCst 2 w w.heap.size A n xs) (hn : n ≤ 1048576) :
    Calls Try.prog 45 #[.agg #[.int .i64 a, .int .i64 h, .int .i64 c], .slice A n cp] w (RetT (bcS a h c xs).1 (bcS a h c xs).2 (bcB a h c xs) w) := by
  have hl := hr.1
  rcases bc_parts a h c xs with ⟨h1, hB⟩ | ⟨h1, h2, hB⟩ | ⟨h1, h2, hB⟩
  · rw [bcS_no hB, hB]
    have H1 := Lib.hid h1
    clear h1 hB
    go_enter Try.func45, Try.ntmps45
    go_wp2_with (go_at_call 16; refine (implIsMachine_any _ _ _ _).mono ?_; rw [H1.out]; rintro e w1 ⟨rfl, hb⟩)
    go_ret3
    exact rett_nil rfl (by repeat (first | (with_reducible exact Below.refl _ _) | (with_reducible assumption) | (with_reducible refine bl_alloc ?_ _) | (with_reducible refine bl_drew ?_) | (with_reducible refine bl_drewN ?_ _) | ((with_reducible refine bl_set ?_ ?hb _); (case hb => first | (simp; done) | omega | (simp; omega))) | (with_reducible refine bl_trans ?_ (by assumption)))) _ _
  · rw [bcS_no hB, hB]
    have H1 := Lib.hid h1
    have H2 := Lib.hid h2
    clear h1 h2 hB
    go_enter Try.func45, Try.ntmps45
    go_wp2_with fail
    refine (implIsMachine_any _ _ _ _).mono ?_
    rw [H1.out]
    rintro e w1 ⟨rfl, hb⟩
    obtain ⟨hc0, hf0, hz0⟩ := bl_at hb (k := w.heap.size) (by first | assumption | (simp; done) | (simp; omega)); obtain ⟨hc1, hf1, hz1⟩ := bl_at hb (k := w.heap.size + 1) (by first | assumption | (simp; done) | (simp; omega))
    have hB1 : Below w.heap.size w w1 := by repeat (first | (with_reducible exact Below.refl _ _) | (with_reducible assumption) | (with_reducible refine bl_alloc ?_ _) | (with_reducible refine bl_drew ?_) | (with_reducible refine bl_drewN ?_ _) | ((with_reducible refine bl_set ?_ ?hb _); (case hb => first | (simp; done) | omega | (simp; omega))) | (with_reducible refine bl_trans ?_ (by assumption)))
    clear hb
    go_wp2_with (go_at_call 23; refine (implAreCastings_any _ _ _ _ xs _ (hr.below hB1) hB1.size hn).mono ?_; rw [H2.out]; rintro e w2 ⟨rfl, hb2⟩)
    go_ret3
    exact rett_nil rfl (bl_trans hB1 (by repeat (first | (with_reducible exact Below.refl _ _) | (with_reducible assumption) | (with_reducible refine bl_alloc ?_ _) | (with_reducible refine bl_drew ?_) | (with_reducible refine bl_drewN ?_ _) | ((with_reducible refine bl_set ?_ ?hb _); (case hb => first | (simp; done) | omega | (simp; omega))) | (with_reducible refine bl_trans ?_ (by assumption))))) _ _
  · rw [bcS_yes hB, hB, hl]
    have hms := best_same h1 h2 n
    have hn8 := casts_len h2
    have HMS := Lib.hid (eachBest_any (a := a) (h := h) (c := c) (A := A) (n := n) (cp := cp) (xs := xs) (hn := by omega) (hxl := hl) (hm := h1) (hx := h2))
    rw [hms]
    have H1 := Lib.hid h1
    have H2 := Lib.hid h2
    clear h1 h2 hB hms
    go_enter Try.func45, Try.ntmps45
    go_wp2_with fail
    refine (implIsMachine_any _ _ _ _).mono ?_
    rw [H1.out]
    rintro e w1 ⟨rfl, hb⟩
    obtain ⟨hc0, hf0, hz0⟩ := bl_at hb (k := w.heap.size) (by first | assumption | (simp; done) | (simp; omega)); obtain ⟨hc1, hf1, hz1⟩ := bl_at hb (k := w.heap.size + 1) (by first | assumption | (simp; done) | (simp; omega))
    have hB1 : Below w.heap.size w w1 := by repeat (first | (with_reducible exact Below.refl _ _) | (with_reducible assumption) | (with_reducible refine bl_alloc ?_ _) | (with_reducible refine bl_drew ?_) | (with_reducible refine bl_drewN ?_ _) | ((with_reducible refine bl_set ?_ ?hb _); (case hb => first | (simp; done) | omega | (simp; omega))) | (with_reducible refine bl_trans ?_ (by assumption)))
    clear hb
    go_wp2_with fail
    refine (implAreCastings_any _ _ _ _ xs _ (hr.below hB1) hB1.size hn).mono ?_
    rw [H2.out]
    rintro e w2 ⟨rfl, hb⟩
    obtain ⟨hc3, hf3, hz3⟩ := bl_at hb (k := w.heap.size) hz0
    obtain ⟨hc4, hf4, hz4⟩ := bl_at hb (k := w.heap.size + 1) hz1
    have hB2 := bl_trans hB1 hb
    clear hb
    go_wp2_with fail
    obtain ⟨k1, k2⟩ := cells2 w #[.int .i64 a, .int .i64 h, .int .i64 c] #[.slice A n cp] 25 38
    have hX : Below w2.heap.size w2 ((((w2.alloc (.cells #[] 3)).alloc (.cells #[.slice (some ⟨w2.heap.size, 0, none⟩) 0 0] 42)).alloc (.cells #[.int .i64 (-1)] 3)).alloc (.cells #[] 3)) := by repeat (first | (with_reducible exact Below.refl _ _) | (with_reducible assumption) | (with_reducible refine bl_alloc ?_ _) | (with_reducible refine bl_drew ?_) | (with_reducible refine bl_drewN ?_ _) | ((with_reducible refine bl_set ?_ ?hb _); (case hb => first | (simp; done) | omega | (simp; omega))) | (with_reducible refine bl_trans ?_ (by assumption)))
    obtain ⟨⟨R, r⟩, hR⟩ : ∃ R, eo n (bStep n (tmV a h c xs)) n [] ([], -1) = R := ⟨_, rfl⟩
    have HRR := Lib.hid hR
    clear hR
    refine (HMS.out (w2.heap.size + 1) w.heap.size (w.heap.size + 1) n _ 0 0 [] ([], -1) _ (by simp) ?st (wr_nil _ _ _) (Nat.le_refl _) (by rfl) (by simp)).mono ?_
    case st =>
      refine ⟨by simp, by omega, by omega, ?_, ?_, ?_, ?_, ?_, ?_, ?_, ?_, some ⟨w2.heap.size, 0, none⟩, 0, ?_, wr_nil _ _ _⟩
      · exact (hX.cell (p := ⟨w.heap.size, 0, none⟩) hz3).trans ((hc3 0).trans ((hc0 0).trans (k1 0)))
      · exact (hX.cell (p := ⟨w.heap.size, 1, none⟩) hz3).trans ((hc3 1).trans ((hc0 1).trans (k1 1)))
      · exact (hX.cell (p := ⟨w.heap.size, 2, none⟩) hz3).trans ((hc3 2).trans ((hc0 2).trans (k1 2)))
      · exact (hX.cell (p := ⟨w.heap.size + 1, 0, none⟩) hz4).trans ((hc4 0).trans ((hc1 0).trans (k2 0)))
      · exact cell_new4 _ _ _ _ _ _ _
      · exact frozen_new4 _ _ _ _ _ _ _
      · exact frozen_new4b _ _ _ _ _ _ _
      · exact ((hr.below hB2).below (hX.mono hB2.size)).more (by have := hB2.size; omega)
      · exact cell_new4b _ _ _ _ _ _ _
    rw [HRR.out]
    rintro e w5 ⟨rfl, hs5, hg5, hl5⟩
    obtain ⟨A5, c5, e5, hw5⟩ := hs5.b
    have e6 := hs5.c4
    dsimp only at e5 e6 hw5
    have HW5 := Lib.hid (wr_base hw5 (show w.heap.size ≤ w2.heap.size + 1 + 2 by have := hB2.size; omega))
    have HB5 := Lib.hid ((hB2.trans (hX.mono hB2.size)).trans (fr_below hg5 (show w.heap.size ≤ w2.heap.size + 1 by have := hB2.size; omega) (by have := hB2.size; simp; omega)))
    clear hw5 hs5 hg5
    go_wp2_with fail
    refine wp_region_noPanic ?_
    refine wp_region_held_drew (S := (fun w' => w'.cell? ⟨w2.heap.size + 1, 0, none⟩ = some (.slice A5 R.length c5) ∧ w'.cell? ⟨w2.heap.size + 1 + 1, 0, none⟩ = some (.int .i64 r))) (by kernel_rfl) (by (try dsimp only); go_keep) (fun hHeld => ?_)
    refine take_of (some 24) (i := 0) (v := ?vq1_0) rfl rfl (by kernel_rfl) (by kernel_rfl) (by kernel_rfl) (fun _ _ _ h => h) (Or.inl ⟨by rfl, ?hyq1_0⟩) (by assumption) ?restq1_0
    case hyq1_0 => (intro w hSw; (try dsimp only at hSw); go_simp; try with_reducible rfl)
    try simp only [Act.put, List.setIfInBounds_toArray, List.set_cons_zero, List.set_cons_succ]
    refine take_of (some 25) (i := 1) (v := ?vq1_1) rfl rfl (by kernel_rfl) (by kernel_rfl) (by kernel_rfl) (fun _ _ _ h => h) (Or.inl ⟨by rfl, ?hyq1_1⟩) (by assumption) ?restq1_1
    case hyq1_1 => (intro w hSw; (try dsimp only at hSw); go_simp; try with_reducible rfl)
    try simp only [Act.put, List.setIfInBounds_toArray, List.set_cons_zero, List.set_cons_succ]
    refine take_of (some 4) (i := 2) (v := ?vq1_2) rfl rfl (by kernel_rfl) (by kernel_rfl) (by kernel_rfl) (fun _ _ _ h => h) (Or.inl ⟨by rfl, ?hyq1_2⟩) (by assumption) ?restq1_2
    case hyq1_2 => (intro w hSw; (try dsimp only at hSw); go_simp; try with_reducible rfl)
    try simp only [Act.put, List.setIfInBounds_toArray, List.set_cons_zero, List.set_cons_succ]
    refine take_of (some 5) (i := 3) (v := ?vq1_3) rfl rfl (by kernel_rfl) (by kernel_rfl) (by kernel_rfl) (fun _ _ _ h => h) (Or.inl ⟨by rfl, ?hyq1_3⟩) (by assumption) ?restq1_3
    case hyq1_3 => (intro w hSw; (try dsimp only at hSw); go_simp; try with_reducible rfl)
    try simp only [Act.put, List.setIfInBounds_toArray, List.set_cons_zero, List.set_cons_succ]
    refine take_of (some 6) (i := 4) (v := ?vq1_4) rfl rfl (by kernel_rfl) (by kernel_rfl) (by kernel_rfl) (fun _ _ _ h => h) (Or.inl ⟨by rfl, ?hyq1_4⟩) (by assumption) ?restq1_4
    case hyq1_4 => (intro w hSw; (try dsimp only at hSw); go_simp; try with_reducible rfl)
    try simp only [Act.put, List.setIfInBounds_toArray, List.set_cons_zero, List.set_cons_succ]
    refine wpAnyH_done (by kernel_rfl) ?_ _
    refine NoPanic.normal ?_
    go_wp2
    go_ret3
    rw [HRR.out]
    exact ⟨A5, c5, rfl, HW5.out, bl_drew HB5.out⟩
end Go.Proofs.Ytabmhmbmdegoaaa
