/-
  BestCastOrder: the reference model's contract.
-/
import Derived.Test.YtabmhmbmdegoaaaCs20
namespace Go.Proofs.Ytabmhmbmdegoaaa
open Go.RowKit
set_option linter.unusedVariables false
attribute [local go_sem ↓] Go.wp_at_zero Go.wp_at_succ

/-- returns a slice of int in new memory, a number and a bool -/
def RetT (xs : List Int) (v : Int) (b : Bool) (w : World) (e : Ending) (w' : World) : Prop := ∃ A c, e = .returned (.tuple #[.slice A xs.length c, .int .i64 v, .bool b]) ∧ Wr w' w.heap.size A xs.length xs ∧ Below w.heap.size w w'
theorem rett_nil {w w' : World} {xs : List Int} {v : Int} {b : Bool} (h : xs = []) (hb : Below w.heap.size w w') (A : Option Addr) (c : Nat) : RetT xs v b w (.returned (.tuple #[.slice A 0 c, .int .i64 v, .bool b])) w' := by
  subst h; exact ⟨A, c, rfl, wr_nil _ _ _, hb⟩
def bcB (a h c : Int) (xs : List Cst) : Bool := machB a h c && castsB xs
def bcS (a h c : Int) (xs : List Cst) : List Int × Int := if bcB a h c xs = true then bs xs.length (tmV a h c xs) xs.length [] ([], 0) else ([], 0)
theorem bcS_no {a h c : Int} {xs : List Cst} (hb : bcB a h c xs = false) : bcS a h c xs = ([], 0) := by simp [bcS, hb]
theorem bcS_yes {a h c : Int} {xs : List Cst} (hb : bcB a h c xs = true) : bcS a h c xs = bs xs.length (tmV a h c xs) xs.length [] ([], 0) := by simp [bcS, hb]
theorem bc_parts (a h c : Int) (xs : List Cst) : (machB a h c = false ∧ bcB a h c xs = false) ∨ (machB a h c = true ∧ castsB xs = false ∧ bcB a h c xs = false) ∨ (machB a h c = true ∧ castsB xs = true ∧ bcB a h c xs = true) := by
  unfold bcB
  rcases machB a h c with _ | _ <;> rcases castsB xs with _ | _ <;> simp
set_option maxHeartbeats 2000000 in
theorem specBC_any (a h c : Int) (A : Option Addr) (n cp : Nat) (xs : List Cst) (w : World) (hr : Rd cCst 2 w w.heap.size A n xs) (hn : n ≤ 1048576) :
    Calls Try.prog 44 #[.agg #[.int .i64 a, .int .i64 h, .int .i64 c], .slice A n cp] w (RetT (bcS a h c xs).1 (bcS a h c xs).2 (bcB a h c xs) w) := by
  have hl := hr.1
  rcases bc_parts a h c xs with ⟨h1, hB⟩ | ⟨h1, h2, hB⟩ | ⟨h1, h2, hB⟩
  · rw [bcS_no hB, hB]
    have H1 := Lib.hid h1
    clear h1 hB
    go_enter Try.func44, Try.ntmps44
    go_wp2_with (go_at_call 46; refine (csMachine_any _ _ _ _).mono ?_; rw [H1.out]; rintro e w1 ⟨rfl, hb⟩)
    go_ret3
    exact rett_nil rfl (by repeat (first | (with_reducible exact Below.refl _ _) | (with_reducible assumption) | (with_reducible refine bl_alloc ?_ _) | (with_reducible refine bl_drew ?_) | (with_reducible refine bl_drewN ?_ _) | ((with_reducible refine bl_set ?_ ?hb _); (case hb => first | (simp; done) | omega | (simp; omega))) | (with_reducible refine bl_trans ?_ (by assumption)))) _ _
  · rw [bcS_no hB, hB]
    have H1 := Lib.hid h1
    have H2 := Lib.hid h2
    clear h1 h2 hB
    go_enter Try.func44, Try.ntmps44
    go_wp2_with fail
    refine (csMachine_any _ _ _ _).mono ?_
    rw [H1.out]
    rintro e w1 ⟨rfl, hb⟩
    have hB1 : Below w.heap.size w w1 := by repeat (first | (with_reducible exact Below.refl _ _) | (with_reducible assumption) | (with_reducible refine bl_alloc ?_ _) | (with_reducible refine bl_drew ?_) | (with_reducible refine bl_drewN ?_ _) | ((with_reducible refine bl_set ?_ ?hb _); (case hb => first | (simp; done) | omega | (simp; omega))) | (with_reducible refine bl_trans ?_ (by assumption)))
    go_wp2_with (go_at_call 53; refine (csGood_any _ _ _ _ xs _ (hr.below hB1) hB1.size hn).mono ?_; rw [H2.out]; rintro e w2 ⟨rfl, hb2⟩)
    go_ret3
    exact rett_nil rfl (bl_trans hB1 hb2) _ _
  · rw [bcS_yes hB, hB, hl]
    have H1 := Lib.hid h1
    have H2 := Lib.hid h2
    have hn8 := casts_len h2
    have HMS := Lib.hid (fun (W : World) (hb : Below w.heap.size w W) => csBest_any a h c A n cp xs w.heap.size (by omega) hl h1 h2 n none 0 0 [] none 0 0 [] 0 W (by simp) ((hr.below hb).more hb.size) (wr_nil _ _ _) (Nat.le_refl _) (wr_nil _ _ _) (by rfl) (by simp) hb.size)
    by_cases hn0 : n = 0
    · have hne : ((n : Int) == 0) = true := by simp; omega
      subst hn0
      have HZ := Lib.hid (show bs 0 (tmV a h c xs) 0 [] ([], 0) = ([], 0) from bs0_old (by simp [tmV_nil]))
      clear h1 h2 hB HMS hne
      go_enter Try.func44, Try.ntmps44
      go_wp2_with fail
      refine (csMachine_any _ _ _ _).mono ?_
      rw [H1.out]
      rintro e w1 ⟨rfl, hb⟩
      have hB1 : Below w.heap.size w w1 := by repeat (first | (with_reducible exact Below.refl _ _) | (with_reducible assumption) | (with_reducible refine bl_alloc ?_ _) | (with_reducible refine bl_drew ?_) | (with_reducible refine bl_drewN ?_ _) | ((with_reducible refine bl_set ?_ ?hb _); (case hb => first | (simp; done) | omega | (simp; omega))) | (with_reducible refine bl_trans ?_ (by assumption)))
      clear hb
      go_wp2_with (go_at_call 53; refine (csGood_any _ _ _ _ xs _ (hr.below hB1) hB1.size hn).mono ?_; rw [H2.out]; rintro e w2 ⟨rfl, hb2⟩)
      go_ret3
      rw [HZ.out]
      exact rett_nil rfl (bl_trans hB1 hb2) _ _
    · have hne : ((n : Int) == 0) = false := by simp; omega
      clear h1 h2 hB
      go_enter Try.func44, Try.ntmps44
      go_wp2_with fail
      refine (csMachine_any _ _ _ _).mono ?_
      rw [H1.out]
      rintro e w1 ⟨rfl, hb⟩
      obtain ⟨hc0, hf0, hz0⟩ := bl_at hb (k := w.heap.size) (by first | assumption | (simp; done) | (simp; omega))
      have hB1 : Below w.heap.size w w1 := by repeat (first | (with_reducible exact Below.refl _ _) | (with_reducible assumption) | (with_reducible refine bl_alloc ?_ _) | (with_reducible refine bl_drew ?_) | (with_reducible refine bl_drewN ?_ _) | ((with_reducible refine bl_set ?_ ?hb _); (case hb => first | (simp; done) | omega | (simp; omega))) | (with_reducible refine bl_trans ?_ (by assumption)))
      have HB1 := Lib.hid hB1
      have hsz1 : w.heap.size < w1.heap.size := hz0
      clear hb
      go_wp2_with fail
      refine (csGood_any _ _ _ _ xs _ (hr.below hB1) hB1.size hn).mono ?_
      rw [H2.out]
      rintro e w2 ⟨rfl, hb⟩
      obtain ⟨hc1, hf1, hz1⟩ := bl_at hb (k := w.heap.size) (by omega)
      have HB2 := Lib.hid (bl_trans HB1.out hb)
      go_wp2_with fail
      refine (HMS.out _ HB2.out).mono ?_
      rintro e w3 ⟨A3, c3, rfl, hw3, hb3, hl3⟩
      have HW3 := Lib.hid hw3
      have HB3 := Lib.hid (bl_trans HB2.out hb3)
      clear hw3 hb3
      go_wp2
      go_ret3
      exact ⟨A3, c3, rfl, HW3.out, HB3.out⟩
end Go.Proofs.Ytabmhmbmdegoaaa
