/-
  MostCastings: the implementation's contract.
-/
import Derived.Test.YtabmhmbmdegoaaaCs13
import Derived.Lib.SmallJoins
namespace Go.Proofs.Ytabmhmbmdegoaaa
open Go.RowKit
set_option linter.unusedVariables false
attribute [local go_sem ↓] Go.wp_at_zero Go.wp_at_succ

theorem cell_new3 (w : World) (v : Value) (t : TypeId) (o1 o2 : Obj) : (((w.alloc o1).alloc (.cells #[v] t)).alloc o2).cell? ⟨w.heap.size + 1, 0, none⟩ = some v := by
  have e1 : (w.alloc o1).heap.size = w.heap.size + 1 := by simp
  have b : Below ((w.alloc o1).alloc (.cells #[v] t)).heap.size ((w.alloc o1).alloc (.cells #[v] t)) (((w.alloc o1).alloc (.cells #[v] t)).alloc o2) := by repeat (first | (with_reducible exact Below.refl _ _) | (with_reducible assumption) | (with_reducible refine bl_alloc ?_ _) | (with_reducible refine bl_drew ?_) | (with_reducible refine bl_drewN ?_ _) | ((with_reducible refine bl_set ?_ ?hb _); (case hb => first | (simp; done) | omega | (simp; omega))) | (with_reducible refine bl_trans ?_ (by assumption)))
  exact (b.cell (p := ⟨w.heap.size + 1, 0, none⟩) (by show w.heap.size + 1 < _; simp)).trans (Go.Joins.cell_alloc_mark_at _ #[v] t (0, 0) _ 0 e1.symm)
theorem frozen_new3 (w : World) (v : Value) (t : TypeId) (o1 o2 : Obj) : (((w.alloc o1).alloc (.cells #[v] t)).alloc o2).frozen? ⟨w.heap.size + 1, 0, none⟩ = false := by
  have e1 : (w.alloc o1).heap.size = w.heap.size + 1 := by simp
  have b : Below ((w.alloc o1).alloc (.cells #[v] t)).heap.size ((w.alloc o1).alloc (.cells #[v] t)) (((w.alloc o1).alloc (.cells #[v] t)).alloc o2) := by repeat (first | (with_reducible exact Below.refl _ _) | (with_reducible assumption) | (with_reducible refine bl_alloc ?_ _) | (with_reducible refine bl_drew ?_) | (with_reducible refine bl_drewN ?_ _) | ((with_reducible refine bl_set ?_ ?hb _); (case hb => first | (simp; done) | omega | (simp; omega))) | (with_reducible refine bl_trans ?_ (by assumption)))
  refine (b.frozen (p := ⟨w.heap.size + 1, 0, none⟩) (by show w.heap.size + 1 < _; simp)).trans ?_
  rw [← e1]
  exact World.frozen?_alloc_new _ _ _ _
theorem cells3 (w : World) (C1 C2 C3 : Array Value) (t1 t2 t3 : TypeId) : (∀ o, (((w.alloc (.cells C1 t1)).alloc (.cells C2 t2)).alloc (.cells C3 t3)).cell? ⟨w.heap.size, o, none⟩ = C1[o]?) ∧ (∀ o, (((w.alloc (.cells C1 t1)).alloc (.cells C2 t2)).alloc (.cells C3 t3)).cell? ⟨w.heap.size + 1, o, none⟩ = C2[o]?) ∧ (∀ o, (((w.alloc (.cells C1 t1)).alloc (.cells C2 t2)).alloc (.cells C3 t3)).cell? ⟨w.heap.size + 1 + 1, o, none⟩ = C3[o]?) := by
  have b1 : Below (w.alloc (.cells C1 t1)).heap.size (w.alloc (.cells C1 t1)) (((w.alloc (.cells C1 t1)).alloc (.cells C2 t2)).alloc (.cells C3 t3)) := by repeat (first | (with_reducible exact Below.refl _ _) | (with_reducible assumption) | (with_reducible refine bl_alloc ?_ _) | (with_reducible refine bl_drew ?_) | (with_reducible refine bl_drewN ?_ _) | ((with_reducible refine bl_set ?_ ?hb _); (case hb => first | (simp; done) | omega | (simp; omega))) | (with_reducible refine bl_trans ?_ (by assumption)))
  have b2 : Below ((w.alloc (.cells C1 t1)).alloc (.cells C2 t2)).heap.size ((w.alloc (.cells C1 t1)).alloc (.cells C2 t2)) (((w.alloc (.cells C1 t1)).alloc (.cells C2 t2)).alloc (.cells C3 t3)) := by repeat (first | (with_reducible exact Below.refl _ _) | (with_reducible assumption) | (with_reducible refine bl_alloc ?_ _) | (with_reducible refine bl_drew ?_) | (with_reducible refine bl_drewN ?_ _) | ((with_reducible refine bl_set ?_ ?hb _); (case hb => first | (simp; done) | omega | (simp; omega))) | (with_reducible refine bl_trans ?_ (by assumption)))
  have e1 : (w.alloc (.cells C1 t1)).heap.size = w.heap.size + 1 := by simp
  have e2 : ((w.alloc (.cells C1 t1)).alloc (.cells C2 t2)).heap.size = w.heap.size + 1 + 1 := by simp
  refine ⟨fun o => (b1.cell (p := ⟨w.heap.size, o, none⟩) (by show w.heap.size < _; omega)).trans (Go.Joins.cell_alloc_mark_at w C1 t1 (0, 0) _ o rfl), fun o => (b2.cell (p := ⟨w.heap.size + 1, o, none⟩) (by show w.heap.size + 1 < _; omega)).trans (Go.Joins.cell_alloc_mark_at _ C2 t2 (0, 0) _ o e1.symm), fun o => Go.Joins.cell_alloc_mark_at _ C3 t3 (0, 0) _ o e2.symm⟩
set_option maxHeartbeats 4000000 in
theorem implMC_any (a h c : Int) (A : Option Addr) (n cp : Nat) (xs : List Cst) (mins : Int) (w : World) (hr : Rd cCst 2 w w.heap.size A n xs) (hn : n ≤ 1048576) :
    Calls Try.prog 41 #[.agg #[.int .i64 a, .int .i64 h, .int .i64 c], .slice A n cp, .int .i64 mins] w (RetS (mcL a h c xs mins) (mcB a h c xs mins) w) := by
  have hl := hr.1
  rcases mc_parts a h c xs mins with ⟨h1, hB⟩ | ⟨h1, h2, hB⟩ | ⟨h1, h2, h3, hB⟩ | ⟨h1, h2, h3, hB⟩
  · rw [mcL_no hB, hB]
    have H1 := Lib.hid h1
    clear h1 hB
    go_enter Try.func41, Try.ntmps41
    go_wp2_with (go_at_call 16; refine (implIsMachine_any _ _ _ _).mono ?_; rw [H1.out]; rintro e w1 ⟨rfl, hb⟩)
    go_ret2
    exact rets_nil rfl (by repeat (first | (with_reducible exact Below.refl _ _) | (with_reducible assumption) | (with_reducible refine bl_alloc ?_ _) | (with_reducible refine bl_drew ?_) | (with_reducible refine bl_drewN ?_ _) | ((with_reducible refine bl_set ?_ ?hb _); (case hb => first | (simp; done) | omega | (simp; omega))) | (with_reducible refine bl_trans ?_ (by assumption)))) _ _
  · rw [mcL_no hB, hB]
    have H1 := Lib.hid h1
    have H2 := Lib.hid h2
    clear h1 h2 hB
    go_enter Try.func41, Try.ntmps41
    go_wp2_with fail
    refine (implIsMachine_any _ _ _ _).mono ?_
    rw [H1.out]
    rintro e w1 ⟨rfl, hb⟩
    obtain ⟨hc0, hf0, hz0⟩ := bl_at hb (k := w.heap.size) (by first | assumption | (simp; done) | (simp; omega)); obtain ⟨hc1, hf1, hz1⟩ := bl_at hb (k := w.heap.size + 1) (by first | assumption | (simp; done) | (simp; omega))
    have hB1 : Below w.heap.size w w1 := by repeat (first | (with_reducible exact Below.refl _ _) | (with_reducible assumption) | (with_reducible refine bl_alloc ?_ _) | (with_reducible refine bl_drew ?_) | (with_reducible refine bl_drewN ?_ _) | ((with_reducible refine bl_set ?_ ?hb _); (case hb => first | (simp; done) | omega | (simp; omega))) | (with_reducible refine bl_trans ?_ (by assumption)))
    clear hb
    go_wp2_with (go_at_call 23; refine (implAreCastings_any _ _ _ _ xs _ (hr.below hB1) hB1.size hn).mono ?_; rw [H2.out]; rintro e w2 ⟨rfl, hb2⟩)
    go_ret2
    exact rets_nil rfl (bl_trans hB1 (by repeat (first | (with_reducible exact Below.refl _ _) | (with_reducible assumption) | (with_reducible refine bl_alloc ?_ _) | (with_reducible refine bl_drew ?_) | (with_reducible refine bl_drewN ?_ _) | ((with_reducible refine bl_set ?_ ?hb _); (case hb => first | (simp; done) | omega | (simp; omega))) | (with_reducible refine bl_trans ?_ (by assumption))))) _ _
  · rw [mcL_no hB, hB]
    have H1 := Lib.hid h1
    have H2 := Lib.hid h2
    have H3 := Lib.hid h3
    clear h1 h2 h3 hB
    go_enter Try.func41, Try.ntmps41
    go_wp2_with fail
    refine (implIsMachine_any _ _ _ _).mono ?_
    rw [H1.out]
    rintro e w1 ⟨rfl, hb⟩
    obtain ⟨hc0, hf0, hz0⟩ := bl_at hb (k := w.heap.size) (by first | assumption | (simp; done) | (simp; omega)); obtain ⟨hc1, hf1, hz1⟩ := bl_at hb (k := w.heap.size + 1) (by first | assumption | (simp; done) | (simp; omega))
    obtain ⟨hc2, hf2, hz2⟩ := bl_at hb (k := w.heap.size + 2) (by first | (simp; done) | (simp; omega))
    have hB1 : Below w.heap.size w w1 := by repeat (first | (with_reducible exact Below.refl _ _) | (with_reducible assumption) | (with_reducible refine bl_alloc ?_ _) | (with_reducible refine bl_drew ?_) | (with_reducible refine bl_drewN ?_ _) | ((with_reducible refine bl_set ?_ ?hb _); (case hb => first | (simp; done) | omega | (simp; omega))) | (with_reducible refine bl_trans ?_ (by assumption)))
    clear hb
    go_wp2_with fail
    refine (implAreCastings_any _ _ _ _ xs _ (hr.below hB1) hB1.size hn).mono ?_
    rw [H2.out]
    rintro e w2 ⟨rfl, hb⟩
    obtain ⟨hc3, hf3, hz3⟩ := bl_at hb (k := w.heap.size) hz0
    obtain ⟨hc4, hf4, hz4⟩ := bl_at hb (k := w.heap.size + 1) hz1
    obtain ⟨hc5, hf5, hz5⟩ := bl_at hb (k := w.heap.size + 2) hz2
    have hB2 := bl_trans hB1 hb
    clear hb
    go_wp2_with (go_at_call 63; refine (isMinutes_any _ _).mono ?_; rw [H3.out]; rintro e w' ⟨rfl, rfl⟩)
    go_ret2
    exact rets_nil rfl (bl_trans hB2 (by repeat (first | (with_reducible exact Below.refl _ _) | (with_reducible assumption) | (with_reducible refine bl_alloc ?_ _) | (with_reducible refine bl_drew ?_) | (with_reducible refine bl_drewN ?_ _) | ((with_reducible refine bl_set ?_ ?hb _); (case hb => first | (simp; done) | omega | (simp; omega))) | (with_reducible refine bl_trans ?_ (by assumption))))) _ _
  · rw [mcL_yes hB, hB, hl]
    have h30 : 0 ≤ mins := (inB_iff.1 h3).1
    have hms := most_same h1 h2 h30 n
    have hn8 := casts_len h2
    have HMS := Lib.hid (eachMost_any (a := a) (h := h) (c := c) (A := A) (n := n) (cp := cp) (xs := xs) (mins := mins) (hn := by omega) (hxl := hl) (hm := h1) (hx := h2))
    rw [hms]
    have H1 := Lib.hid h1
    have H2 := Lib.hid h2
    have H3 := Lib.hid h3
    clear h1 h2 h3 hB hms
    go_enter Try.func41, Try.ntmps41
    go_wp2_with fail
    refine (implIsMachine_any _ _ _ _).mono ?_
    rw [H1.out]
    rintro e w1 ⟨rfl, hb⟩
    obtain ⟨hc0, hf0, hz0⟩ := bl_at hb (k := w.heap.size) (by first | assumption | (simp; done) | (simp; omega)); obtain ⟨hc1, hf1, hz1⟩ := bl_at hb (k := w.heap.size + 1) (by first | assumption | (simp; done) | (simp; omega))
    obtain ⟨hc2, hf2, hz2⟩ := bl_at hb (k := w.heap.size + 2) (by first | (simp; done) | (simp; omega))
    have hB1 : Below w.heap.size w w1 := by repeat (first | (with_reducible exact Below.refl _ _) | (with_reducible assumption) | (with_reducible refine bl_alloc ?_ _) | (with_reducible refine bl_drew ?_) | (with_reducible refine bl_drewN ?_ _) | ((with_reducible refine bl_set ?_ ?hb _); (case hb => first | (simp; done) | omega | (simp; omega))) | (with_reducible refine bl_trans ?_ (by assumption)))
    clear hb
    go_wp2_with fail
    refine (implAreCastings_any _ _ _ _ xs _ (hr.below hB1) hB1.size hn).mono ?_
    rw [H2.out]
    rintro e w2 ⟨rfl, hb⟩
    obtain ⟨hc3, hf3, hz3⟩ := bl_at hb (k := w.heap.size) hz0
    obtain ⟨hc4, hf4, hz4⟩ := bl_at hb (k := w.heap.size + 1) hz1
    obtain ⟨hc5, hf5, hz5⟩ := bl_at hb (k := w.heap.size + 2) hz2
    have hB2 := bl_trans hB1 hb
    clear hb
    go_wp2_with (go_at_call 63; refine (isMinutes_any _ _).mono ?_; rw [H3.out]; rintro e w' ⟨rfl, rfl⟩)
    obtain ⟨k1, k2, k3⟩ := cells3 w #[.int .i64 a, .int .i64 h, .int .i64 c] #[.slice A n cp] #[.int .i64 mins] 25 38 3
    have hX : Below w2.heap.size w2 (((w2.alloc (.cells #[] 3)).alloc (.cells #[.slice (some ⟨w2.heap.size, 0, none⟩) 0 0] 42)).alloc (.cells #[] 3)) := by repeat (first | (with_reducible exact Below.refl _ _) | (with_reducible assumption) | (with_reducible refine bl_alloc ?_ _) | (with_reducible refine bl_drew ?_) | (with_reducible refine bl_drewN ?_ _) | ((with_reducible refine bl_set ?_ ?hb _); (case hb => first | (simp; done) | omega | (simp; omega))) | (with_reducible refine bl_trans ?_ (by assumption)))
    refine (HMS.out (w2.heap.size + 1) w.heap.size (w.heap.size + 1) (w.heap.size + 1 + 1) n _ 0 0 [] [] _ (by simp) ?st (wr_nil _ _ _) (Nat.le_refl _) (by rfl) (by simp)).mono ?_
    case st =>
      refine ⟨by simp, by omega, by omega, by omega, ?_, ?_, ?_, ?_, ?_, ?_, ?_, some ⟨w2.heap.size, 0, none⟩, 0, ?_, wr_nil _ _ _⟩
      · exact (hX.cell (p := ⟨w.heap.size, 0, none⟩) hz3).trans ((hc3 0).trans ((hc0 0).trans (k1 0)))
      · exact (hX.cell (p := ⟨w.heap.size, 1, none⟩) hz3).trans ((hc3 1).trans ((hc0 1).trans (k1 1)))
      · exact (hX.cell (p := ⟨w.heap.size, 2, none⟩) hz3).trans ((hc3 2).trans ((hc0 2).trans (k1 2)))
      · exact (hX.cell (p := ⟨w.heap.size + 1, 0, none⟩) hz4).trans ((hc4 0).trans ((hc1 0).trans (k2 0)))
      · exact (hX.cell (p := ⟨w.heap.size + 1 + 1, 0, none⟩) hz5).trans ((hc5 0).trans ((hc2 0).trans (k3 0)))
      · exact frozen_new3 _ _ _ _ _
      · exact ((hr.below hB2).below (hX.mono hB2.size)).more (by have := hB2.size; omega)
      · exact cell_new3 _ _ _ _ _
    rintro e w5 ⟨rfl, hs5, hg5, hl5⟩
    obtain ⟨A5, c5, e5, hw5⟩ := hs5.b
    have HW5 := Lib.hid (wr_base hw5 (show w.heap.size ≤ w2.heap.size + 1 + 1 by have := hB2.size; omega))
    have HB5 := Lib.hid ((hB2.trans (hX.mono hB2.size)).trans (gr_below hg5 (show w.heap.size ≤ w2.heap.size + 1 by have := hB2.size; omega) (by have := hB2.size; simp; omega)))
    clear hw5 hs5 hg5
    go_wp2
    go_ret2
    exact ⟨A5, c5, rfl, HW5.out, HB5.out⟩
end Go.Proofs.Ytabmhmbmdegoaaa
