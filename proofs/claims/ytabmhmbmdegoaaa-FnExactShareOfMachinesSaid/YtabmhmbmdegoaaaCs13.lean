/-
  MostCastings: the reference model's contract.
-/
import Derived.Test.YtabmhmbmdegoaaaCs12
namespace Go.Proofs.Ytabmhmbmdegoaaa
open Go.RowKit
set_option linter.unusedVariables false
attribute [local go_sem ↓] Go.wp_at_zero Go.wp_at_succ

def mcB (a h c : Int) (xs : List Cst) (mins : Int) : Bool := machB a h c && (castsB xs && inB mins 0 100000)
def mcL (a h c : Int) (xs : List Cst) (mins : Int) : List Int := if mcB a h c xs mins = true then ms xs.length (tmV a h c xs) mins xs.length [] [] else []
theorem mcL_no {a h c : Int} {xs : List Cst} {mins : Int} (hb : mcB a h c xs mins = false) : mcL a h c xs mins = [] := by simp [mcL, hb]
theorem mcL_yes {a h c : Int} {xs : List Cst} {mins : Int} (hb : mcB a h c xs mins = true) : mcL a h c xs mins = ms xs.length (tmV a h c xs) mins xs.length [] [] := by simp [mcL, hb]
theorem mc_parts (a h c : Int) (xs : List Cst) (mins : Int) : (machB a h c = false ∧ mcB a h c xs mins = false) ∨ (machB a h c = true ∧ castsB xs = false ∧ mcB a h c xs mins = false) ∨ (machB a h c = true ∧ castsB xs = true ∧ inB mins 0 100000 = false ∧ mcB a h c xs mins = false) ∨ (machB a h c = true ∧ castsB xs = true ∧ inB mins 0 100000 = true ∧ mcB a h c xs mins = true) := by
  unfold mcB
  rcases machB a h c with _ | _ <;> rcases castsB xs with _ | _ <;> rcases inB mins 0 100000 with _ | _ <;> simp
theorem wr_nil (w : World) (b0 : Nat) (A : Option Addr) : Wr w b0 A 0 [] := ⟨rfl, fun h => absurd h (by omega)⟩
set_option maxHeartbeats 2000000 in
theorem specMC_any (a h c : Int) (A : Option Addr) (n cp : Nat) (xs : List Cst) (mins : Int) (w : World) (hr : Rd cCst 2 w w.heap.size A n xs) (hn : n ≤ 1048576) :
    Calls Try.prog 40 #[.agg #[.int .i64 a, .int .i64 h, .int .i64 c], .slice A n cp, .int .i64 mins] w (RetS (mcL a h c xs mins) (mcB a h c xs mins) w) := by
  have hl := hr.1
  rcases mc_parts a h c xs mins with ⟨h1, hB⟩ | ⟨h1, h2, hB⟩ | ⟨h1, h2, h3, hB⟩ | ⟨h1, h2, h3, hB⟩
  · rw [mcL_no hB, hB]
    have H1 := Lib.hid h1
    clear h1 hB
    go_enter Try.func40, Try.ntmps40
    go_wp2_with (go_at_call 46; refine (csMachine_any _ _ _ _).mono ?_; rw [H1.out]; rintro e w1 ⟨rfl, hb⟩)
    go_ret2
    exact rets_nil rfl (by repeat (first | (with_reducible exact Below.refl _ _) | (with_reducible assumption) | (with_reducible refine bl_alloc ?_ _) | (with_reducible refine bl_drew ?_) | (with_reducible refine bl_drewN ?_ _) | ((with_reducible refine bl_set ?_ ?hb _); (case hb => first | (simp; done) | omega | (simp; omega))) | (with_reducible refine bl_trans ?_ (by assumption)))) _ _
  · rw [mcL_no hB, hB]
    have H1 := Lib.hid h1
    have H2 := Lib.hid h2
    clear h1 h2 hB
    go_enter Try.func40, Try.ntmps40
    go_wp2_with fail
    refine (csMachine_any _ _ _ _).mono ?_
    rw [H1.out]
    rintro e w1 ⟨rfl, hb⟩
    have hB1 : Below w.heap.size w w1 := by repeat (first | (with_reducible exact Below.refl _ _) | (with_reducible assumption) | (with_reducible refine bl_alloc ?_ _) | (with_reducible refine bl_drew ?_) | (with_reducible refine bl_drewN ?_ _) | ((with_reducible refine bl_set ?_ ?hb _); (case hb => first | (simp; done) | omega | (simp; omega))) | (with_reducible refine bl_trans ?_ (by assumption)))
    go_wp2_with (go_at_call 53; refine (csGood_any _ _ _ _ xs _ (hr.below hB1) hB1.size hn).mono ?_; rw [H2.out]; rintro e w2 ⟨rfl, hb2⟩)
    go_ret2
    exact rets_nil rfl (bl_trans hB1 hb2) _ _
  · rw [mcL_no hB, hB]
    have H1 := Lib.hid h1
    have H2 := Lib.hid h2
    have H3 := Lib.hid h3
    clear h1 h2 h3 hB
    go_enter Try.func40, Try.ntmps40
    go_wp2_with fail
    refine (csMachine_any _ _ _ _).mono ?_
    rw [H1.out]
    rintro e w1 ⟨rfl, hb⟩
    have hB1 : Below w.heap.size w w1 := by repeat (first | (with_reducible exact Below.refl _ _) | (with_reducible assumption) | (with_reducible refine bl_alloc ?_ _) | (with_reducible refine bl_drew ?_) | (with_reducible refine bl_drewN ?_ _) | ((with_reducible refine bl_set ?_ ?hb _); (case hb => first | (simp; done) | omega | (simp; omega))) | (with_reducible refine bl_trans ?_ (by assumption)))
    go_wp2_with (first | (go_at_call 53; refine (csGood_any _ _ _ _ xs _ (hr.below hB1) hB1.size hn).mono ?_; rw [H2.out]; rintro e w2 ⟨rfl, hb2⟩) | (go_at_call 62; refine (csMinutes_any _ _).mono ?_; rw [H3.out]; rintro e w' ⟨rfl, rfl⟩))
    go_ret2
    exact rets_nil rfl (bl_trans hB1 hb2) _ _
  · rw [mcL_yes hB, hB, hl]
    have H1 := Lib.hid h1
    have H2 := Lib.hid h2
    have H3 := Lib.hid h3
    have hn8 := casts_len h2
    have HMS := Lib.hid (fun (W : World) (hb : Below w.heap.size w W) => csMost_any a h c A n cp xs mins w.heap.size (by omega) hl h1 h2 n none 0 0 [] none 0 0 [] W (by simp) ((hr.below hb).more hb.size) (wr_nil _ _ _) (Nat.le_refl _) (wr_nil _ _ _) (by rfl) (by simp) hb.size)
    clear h1 h2 h3 hB
    go_enter Try.func40, Try.ntmps40
    go_wp2_with fail
    refine (csMachine_any _ _ _ _).mono ?_
    rw [H1.out]
    rintro e w1 ⟨rfl, hb⟩
    obtain ⟨hc0, hf0, hz0⟩ := bl_at hb (k := w.heap.size) (by first | assumption | (simp; done) | (simp; omega))
    have hB1 : Below w.heap.size w w1 := by repeat (first | (with_reducible exact Below.refl _ _) | (with_reducible assumption) | (with_reducible refine bl_alloc ?_ _) | (with_reducible refine bl_drew ?_) | (with_reducible refine bl_drewN ?_ _) | ((with_reducible refine bl_set ?_ ?hb _); (case hb => first | (simp; done) | omega | (simp; omega))) | (with_reducible refine bl_trans ?_ (by assumption)))
    have HB1 := Lib.hid hB1
    have hsz1 : w.heap.size < w1.heap.size := hz0
    clear hb
    go_wp2_with fail
    refine (csGood_any _ _ _ _ xs _ (hr.below hB1) hB1.size hn).mono ?_
    rw [H2.out]
    rintro e w2 ⟨rfl, hb⟩
    obtain ⟨hc1, hf1, hz1⟩ := bl_at hb (k := w.heap.size) (by omega)
    have HB2 := Lib.hid (bl_trans HB1.out hb)
    go_wp2_with (go_at_call 62; refine (csMinutes_any _ _).mono ?_; rw [H3.out]; rintro e w' ⟨rfl, rfl⟩)
    refine (HMS.out _ HB2.out).mono ?_
    rintro e w3 ⟨A3, c3, rfl, hw3, hb3, hl3⟩
    have HW3 := Lib.hid hw3
    have HB3 := Lib.hid (bl_trans HB2.out hb3)
    clear hw3 hb3
    go_wp2
    go_ret2
    exact ⟨A3, c3, rfl, HW3.out, HB3.out⟩
end Go.Proofs.Ytabmhmbmdegoaaa
