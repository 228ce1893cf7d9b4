/-
  ChangesIn, OrderTime, DoneBy, MeanEnd: the laws' walks.
-/
import Derived.Test.YtabmhmbmdegoaaaCs5
namespace Go.Proofs.Ytabmhmbmdegoaaa
open Go.RowKit
set_option linter.unusedVariables false
attribute [local go_sem ↓] Go.wp_at_zero Go.wp_at_succ

set_option maxHeartbeats 2000000 in
theorem lawChangesIn (a h c : Int) (A : Option Addr) (n cp : Nat) (xs : List Cst) (A' : Option Addr) (n' cp' : Nat) (os : List Int) (w : World) (_ : I64 a) (_ : I64 h) (_ : I64 c) (hr : Rd cCst 2 w w.heap.size A n xs) (hn : n ≤ maxLen) (_ : ∀ x ∈ xs, okCst x) (hro : Rd cI 1 w w.heap.size A' n' os) (hnn : n' ≤ maxLen) (_ : ∀ x ∈ os, I64 x) :
    Calls Try.prog 6 #[.agg #[.int .i64 a, .int .i64 h, .int .i64 c], .slice A n cp, .slice A' n' cp'] w fun e w' => e = .returned (.bool (true)) ∧ Below w.heap.size w w' := by
  have hn' := hn
  unfold maxLen at hn'
  have hnn' := hnn
  unfold maxLen at hnn'
  have HN := Lib.hid hn
  have HNN := Lib.hid hnn
  clear hn hnn
  by_cases hbig : (1048576 : Int) < (n' : Int)
  · go_enter Try.func6, Try.ntmps6
    go_wp2
    go_ret
    exact ⟨rfl, by repeat (first | (with_reducible exact Below.refl _ _) | (with_reducible assumption) | (with_reducible refine bl_alloc ?_ _) | (with_reducible refine bl_drew ?_) | (with_reducible refine bl_drewN ?_ _) | ((with_reducible refine bl_set ?_ ?hb _); (case hb => first | (simp; done) | omega | (simp; omega))) | (with_reducible refine bl_trans ?_ (by assumption)))⟩
  by_cases hsz : (1048576 : Int) - n < 0
  · have E := Lib.hid (szV_neg hsz)
    go_enter Try.func6, Try.ntmps6
    go_wp2_with (go_at_call 20; refine (szCst_any _ _ _ _ _ HN.out (by omega) (by omega)).mono ?_; rw [E.out]; rintro e w' ⟨rfl, rfl⟩)
    go_ret
    exact ⟨rfl, by repeat (first | (with_reducible exact Below.refl _ _) | (with_reducible assumption) | (with_reducible refine bl_alloc ?_ _) | (with_reducible refine bl_drew ?_) | (with_reducible refine bl_drewN ?_ _) | ((with_reducible refine bl_set ?_ ?hb _); (case hb => first | (simp; done) | omega | (simp; omega))) | (with_reducible refine bl_trans ?_ (by assumption)))⟩
  have E := Lib.hid (szV_pos hsz)
  have hn2 : n ≤ 1048576 := by omega
  have hn3 : n' ≤ 1048576 := by omega
  have HT := Lib.hid (fun (W : World) (h : Below w.heap.size w W) => toCstS_cap A n cp _ xs W (hr.below h) h.size hn2)
  have HI := Lib.hid (fun (W : World) (h : Below w.heap.size w W) => toIntS_cap A' n' cp' _ os W (hro.below h) h.size hn3)
  go_enter Try.func6, Try.ntmps6
  go_wp2_with (go_at_call 20; refine (szCst_any _ _ _ _ _ HN.out (by omega) (by omega)).mono ?_; rw [E.out]; rintro e w' ⟨rfl, rfl⟩)
  refine (toMachine_any _ _ _ _).mono ?_
  rintro e w1 ⟨rfl, hb⟩
  obtain ⟨hc0, hf0, hz0⟩ := bl_at hb (k := w.heap.size) (by first | assumption | (simp; done) | (simp; omega))
  go_wp2_with fail
  refine (HT.out _ (by repeat (first | (with_reducible exact Below.refl _ _) | (with_reducible assumption) | (with_reducible refine bl_alloc ?_ _) | (with_reducible refine bl_drew ?_) | (with_reducible refine bl_drewN ?_ _) | ((with_reducible refine bl_set ?_ ?hb _); (case hb => first | (simp; done) | omega | (simp; omega))) | (with_reducible refine bl_trans ?_ (by assumption))))).mono ?_
  rintro e w2 ⟨A2, rfl, h2, hb⟩
  obtain ⟨hc0, hf0, hz0⟩ := bl_at hb (k := w.heap.size) (by first | assumption | (simp; done) | (simp; omega))
  go_wp2_with fail
  refine (HI.out _ (by repeat (first | (with_reducible exact Below.refl _ _) | (with_reducible assumption) | (with_reducible refine bl_alloc ?_ _) | (with_reducible refine bl_drew ?_) | (with_reducible refine bl_drewN ?_ _) | ((with_reducible refine bl_set ?_ ?hb _); (case hb => first | (simp; done) | omega | (simp; omega))) | (with_reducible refine bl_trans ?_ (by assumption))))).mono ?_
  rintro e w3 ⟨A3, rfl, h3, hb⟩
  obtain ⟨hc0, hf0, hz0⟩ := bl_at hb (k := w.heap.size) (by first | assumption | (simp; done) | (simp; omega))
  have HO3 := Lib.hid (show Ord w3 A2 A3 n n' n' xs os from ⟨(h2.below hb).rd, h3.rd, hn2, hn3, Nat.le_refl _⟩)
  have HB3 := Lib.hid (show Below w.heap.size w w3 from by repeat (first | (with_reducible exact Below.refl _ _) | (with_reducible assumption) | (with_reducible refine bl_alloc ?_ _) | (with_reducible refine bl_drew ?_) | (with_reducible refine bl_drewN ?_ _) | ((with_reducible refine bl_set ?_ ?hb _); (case hb => first | (simp; done) | omega | (simp; omega))) | (with_reducible refine bl_trans ?_ (by assumption))))
  clear h2 h3 hb
  go_wp2_with fail
  refine (specChg_any a h c _ _ n n n' n' xs os _ HO3.out).mono ?_
  rintro e w4 ⟨rfl, hb⟩
  obtain ⟨hc0, hf0, hz0⟩ := bl_at hb (k := w.heap.size) (by first | assumption | (simp; done) | (simp; omega))
  have HB4 := Lib.hid (bl_trans HB3.out hb)
  clear hb
  go_wp2_with fail
  refine (HT.out _ HB4.out).mono ?_
  rintro e w5 ⟨A5, rfl, h5, hb⟩
  obtain ⟨hc0, hf0, hz0⟩ := bl_at hb (k := w.heap.size) (by first | assumption | (simp; done) | (simp; omega))
  have HB5 := Lib.hid (bl_trans HB4.out hb)
  clear hb
  go_wp2_with fail
  refine (HI.out _ HB5.out).mono ?_
  rintro e w6 ⟨A6, rfl, h6, hb⟩
  obtain ⟨hc0, hf0, hz0⟩ := bl_at hb (k := w.heap.size) (by first | assumption | (simp; done) | (simp; omega))
  have HB6 := Lib.hid (bl_trans HB5.out hb)
  have H5 := Lib.hid (h5.below hb)
  have H6 := Lib.hid h6
  clear hb h5 h6
  go_wp2_with fail
  refine (toMachine_any _ _ _ _).mono ?_
  rintro e w7 ⟨rfl, hb⟩
  have HB7 := Lib.hid (bl_trans HB6.out hb)
  have HO7 := Lib.hid (show Ord w7 A5 A6 n n' n' xs os from ⟨(H5.out.below hb).rd, (H6.out.below hb).rd, hn2, hn3, Nat.le_refl _⟩)
  have H57 := Lib.hid (H5.out.below hb)
  have H67 := Lib.hid (H6.out.below hb)
  clear hb hc0 hf0 hz0
  go_wp2_with fail
  refine (implChg_any a h c _ _ n n n' n' xs os _ HO7.out).mono ?_
  rintro e w8 ⟨rfl, hb⟩
  have HB8 := Lib.hid (bl_trans HB7.out hb)
  have H58 := Lib.hid (H57.out.below hb)
  have H68 := Lib.hid (H67.out.below hb)
  clear hb
  go_wp2_with fail
  refine (HT.out _ HB8.out).mono ?_
  rintro e w9 ⟨A9, rfl, h9, hb⟩
  have HB9 := Lib.hid (bl_trans HB8.out hb)
  have H59 := Lib.hid (H58.out.below hb)
  have H69 := Lib.hid (H68.out.below hb)
  clear hb
  go_wp2_with fail
  refine (eqCstS_same _ _ _ _ _ _ _ xs _ H59.out.rd h9.rd (Nat.le_refl _) (Nat.le_refl _) HN.out).mono ?_
  rintro e w10 ⟨rfl, hb⟩
  have HB10 := Lib.hid (bl_trans HB9.out hb)
  have H610 := Lib.hid (H69.out.below hb)
  clear hb h9
  go_wp2_with fail
  refine (HI.out _ HB10.out).mono ?_
  rintro e w11 ⟨A11, rfl, h11, hb⟩
  have HB11 := Lib.hid (bl_trans HB10.out hb)
  have H611 := Lib.hid (H610.out.below hb)
  clear hb
  go_wp2_with fail
  refine (eqIntS_any _ _ _ _ _ _ _ _ _ _ _ H611.out.rd h11.rd HNN.out HNN.out).mono ?_
  rintro e w12 ⟨rfl, mm, rfl⟩
  rw [eqL_same]
  go_wp2
  go_ret
  exact ⟨rfl, bl_drewN HB11.out mm⟩
set_option maxHeartbeats 2000000 in
theorem lawOrderTime (a h c : Int) (A : Option Addr) (n cp : Nat) (xs : List Cst) (A' : Option Addr) (n' cp' : Nat) (os : List Int) (w : World) (_ : I64 a) (_ : I64 h) (_ : I64 c) (hr : Rd cCst 2 w w.heap.size A n xs) (hn : n ≤ maxLen) (_ : ∀ x ∈ xs, okCst x) (hro : Rd cI 1 w w.heap.size A' n' os) (hnn : n' ≤ maxLen) (_ : ∀ x ∈ os, I64 x) :
    Calls Try.prog 8 #[.agg #[.int .i64 a, .int .i64 h, .int .i64 c], .slice A n cp, .slice A' n' cp'] w fun e w' => e = .returned (.bool (true)) ∧ Below w.heap.size w w' := by
  have hn' := hn
  unfold maxLen at hn'
  have hnn' := hnn
  unfold maxLen at hnn'
  have HN := Lib.hid hn
  have HNN := Lib.hid hnn
  clear hn hnn
  by_cases hbig : (1048576 : Int) < (n' : Int)
  · go_enter Try.func8, Try.ntmps8
    go_wp2
    go_ret
    exact ⟨rfl, by repeat (first | (with_reducible exact Below.refl _ _) | (with_reducible assumption) | (with_reducible refine bl_alloc ?_ _) | (with_reducible refine bl_drew ?_) | (with_reducible refine bl_drewN ?_ _) | ((with_reducible refine bl_set ?_ ?hb _); (case hb => first | (simp; done) | omega | (simp; omega))) | (with_reducible refine bl_trans ?_ (by assumption)))⟩
  by_cases hsz : (1048576 : Int) - n < 0
  · have E := Lib.hid (szV_neg hsz)
    go_enter Try.func8, Try.ntmps8
    go_wp2_with (go_at_call 20; refine (szCst_any _ _ _ _ _ HN.out (by omega) (by omega)).mono ?_; rw [E.out]; rintro e w' ⟨rfl, rfl⟩)
    go_ret
    exact ⟨rfl, by repeat (first | (with_reducible exact Below.refl _ _) | (with_reducible assumption) | (with_reducible refine bl_alloc ?_ _) | (with_reducible refine bl_drew ?_) | (with_reducible refine bl_drewN ?_ _) | ((with_reducible refine bl_set ?_ ?hb _); (case hb => first | (simp; done) | omega | (simp; omega))) | (with_reducible refine bl_trans ?_ (by assumption)))⟩
  have E := Lib.hid (szV_pos hsz)
  have hn2 : n ≤ 1048576 := by omega
  have hn3 : n' ≤ 1048576 := by omega
  have HT := Lib.hid (fun (W : World) (h : Below w.heap.size w W) => toCstS_cap A n cp _ xs W (hr.below h) h.size hn2)
  have HI := Lib.hid (fun (W : World) (h : Below w.heap.size w W) => toIntS_cap A' n' cp' _ os W (hro.below h) h.size hn3)
  go_enter Try.func8, Try.ntmps8
  go_wp2_with (go_at_call 20; refine (szCst_any _ _ _ _ _ HN.out (by omega) (by omega)).mono ?_; rw [E.out]; rintro e w' ⟨rfl, rfl⟩)
  refine (toMachine_any _ _ _ _).mono ?_
  rintro e w1 ⟨rfl, hb⟩
  obtain ⟨hc0, hf0, hz0⟩ := bl_at hb (k := w.heap.size) (by first | assumption | (simp; done) | (simp; omega))
  go_wp2_with fail
  refine (HT.out _ (by repeat (first | (with_reducible exact Below.refl _ _) | (with_reducible assumption) | (with_reducible refine bl_alloc ?_ _) | (with_reducible refine bl_drew ?_) | (with_reducible refine bl_drewN ?_ _) | ((with_reducible refine bl_set ?_ ?hb _); (case hb => first | (simp; done) | omega | (simp; omega))) | (with_reducible refine bl_trans ?_ (by assumption))))).mono ?_
  rintro e w2 ⟨A2, rfl, h2, hb⟩
  obtain ⟨hc0, hf0, hz0⟩ := bl_at hb (k := w.heap.size) (by first | assumption | (simp; done) | (simp; omega))
  go_wp2_with fail
  refine (HI.out _ (by repeat (first | (with_reducible exact Below.refl _ _) | (with_reducible assumption) | (with_reducible refine bl_alloc ?_ _) | (with_reducible refine bl_drew ?_) | (with_reducible refine bl_drewN ?_ _) | ((with_reducible refine bl_set ?_ ?hb _); (case hb => first | (simp; done) | omega | (simp; omega))) | (with_reducible refine bl_trans ?_ (by assumption))))).mono ?_
  rintro e w3 ⟨A3, rfl, h3, hb⟩
  obtain ⟨hc0, hf0, hz0⟩ := bl_at hb (k := w.heap.size) (by first | assumption | (simp; done) | (simp; omega))
  have HO3 := Lib.hid (show Ord w3 A2 A3 n n' n' xs os from ⟨(h2.below hb).rd, h3.rd, hn2, hn3, Nat.le_refl _⟩)
  have HB3 := Lib.hid (show Below w.heap.size w w3 from by repeat (first | (with_reducible exact Below.refl _ _) | (with_reducible assumption) | (with_reducible refine bl_alloc ?_ _) | (with_reducible refine bl_drew ?_) | (with_reducible refine bl_drewN ?_ _) | ((with_reducible refine bl_set ?_ ?hb _); (case hb => first | (simp; done) | omega | (simp; omega))) | (with_reducible refine bl_trans ?_ (by assumption))))
  clear h2 h3 hb
  go_wp2_with fail
  refine (specOT_any a h c _ _ n n n' n' xs os _ HO3.out).mono ?_
  rintro e w4 ⟨rfl, hb⟩
  obtain ⟨hc0, hf0, hz0⟩ := bl_at hb (k := w.heap.size) (by first | assumption | (simp; done) | (simp; omega))
  have HB4 := Lib.hid (bl_trans HB3.out hb)
  clear hb
  go_wp2_with fail
  refine (HT.out _ HB4.out).mono ?_
  rintro e w5 ⟨A5, rfl, h5, hb⟩
  obtain ⟨hc0, hf0, hz0⟩ := bl_at hb (k := w.heap.size) (by first | assumption | (simp; done) | (simp; omega))
  have HB5 := Lib.hid (bl_trans HB4.out hb)
  clear hb
  go_wp2_with fail
  refine (HI.out _ HB5.out).mono ?_
  rintro e w6 ⟨A6, rfl, h6, hb⟩
  obtain ⟨hc0, hf0, hz0⟩ := bl_at hb (k := w.heap.size) (by first | assumption | (simp; done) | (simp; omega))
  have HB6 := Lib.hid (bl_trans HB5.out hb)
  have H5 := Lib.hid (h5.below hb)
  have H6 := Lib.hid h6
  clear hb h5 h6
  go_wp2_with fail
  refine (toMachine_any _ _ _ _).mono ?_
  rintro e w7 ⟨rfl, hb⟩
  have HB7 := Lib.hid (bl_trans HB6.out hb)
  have HO7 := Lib.hid (show Ord w7 A5 A6 n n' n' xs os from ⟨(H5.out.below hb).rd, (H6.out.below hb).rd, hn2, hn3, Nat.le_refl _⟩)
  have H57 := Lib.hid (H5.out.below hb)
  have H67 := Lib.hid (H6.out.below hb)
  clear hb hc0 hf0 hz0
  go_wp2_with fail
  refine (implOT_any a h c _ _ n n n' n' xs os _ HO7.out).mono ?_
  rintro e w8 ⟨rfl, hb⟩
  have HB8 := Lib.hid (bl_trans HB7.out hb)
  have H58 := Lib.hid (H57.out.below hb)
  have H68 := Lib.hid (H67.out.below hb)
  clear hb
  go_wp2_with fail
  refine (HT.out _ HB8.out).mono ?_
  rintro e w9 ⟨A9, rfl, h9, hb⟩
  have HB9 := Lib.hid (bl_trans HB8.out hb)
  have H59 := Lib.hid (H58.out.below hb)
  have H69 := Lib.hid (H68.out.below hb)
  clear hb
  go_wp2_with fail
  refine (eqCstS_same _ _ _ _ _ _ _ xs _ H59.out.rd h9.rd (Nat.le_refl _) (Nat.le_refl _) HN.out).mono ?_
  rintro e w10 ⟨rfl, hb⟩
  have HB10 := Lib.hid (bl_trans HB9.out hb)
  have H610 := Lib.hid (H69.out.below hb)
  clear hb h9
  go_wp2_with fail
  refine (HI.out _ HB10.out).mono ?_
  rintro e w11 ⟨A11, rfl, h11, hb⟩
  have HB11 := Lib.hid (bl_trans HB10.out hb)
  have H611 := Lib.hid (H610.out.below hb)
  clear hb
  go_wp2_with fail
  refine (eqIntS_any _ _ _ _ _ _ _ _ _ _ _ H611.out.rd h11.rd HNN.out HNN.out).mono ?_
  rintro e w12 ⟨rfl, mm, rfl⟩
  rw [eqL_same]
  go_wp2
  go_ret
  exact ⟨rfl, bl_drewN HB11.out mm⟩
set_option maxHeartbeats 2000000 in
theorem lawMeanEnd (a h c : Int) (A : Option Addr) (n cp : Nat) (xs : List Cst) (A' : Option Addr) (n' cp' : Nat) (os : List Int) (w : World) (_ : I64 a) (_ : I64 h) (_ : I64 c) (hr : Rd cCst 2 w w.heap.size A n xs) (hn : n ≤ maxLen) (_ : ∀ x ∈ xs, okCst x) (hro : Rd cI 1 w w.heap.size A' n' os) (hnn : n' ≤ maxLen) (_ : ∀ x ∈ os, I64 x) :
    Calls Try.prog 7 #[.agg #[.int .i64 a, .int .i64 h, .int .i64 c], .slice A n cp, .slice A' n' cp'] w fun e w' => e = .returned (.bool (true)) ∧ Below w.heap.size w w' := by
  have hn' := hn
  unfold maxLen at hn'
  have hnn' := hnn
  unfold maxLen at hnn'
  have HN := Lib.hid hn
  have HNN := Lib.hid hnn
  clear hn hnn
  by_cases hbig : (1048576 : Int) < (n' : Int)
  · go_enter Try.func7, Try.ntmps7
    go_wp2
    go_ret
    exact ⟨rfl, by repeat (first | (with_reducible exact Below.refl _ _) | (with_reducible assumption) | (with_reducible refine bl_alloc ?_ _) | (with_reducible refine bl_drew ?_) | (with_reducible refine bl_drewN ?_ _) | ((with_reducible refine bl_set ?_ ?hb _); (case hb => first | (simp; done) | omega | (simp; omega))) | (with_reducible refine bl_trans ?_ (by assumption)))⟩
  by_cases hsz : (1048576 : Int) - n < 0
  · have E := Lib.hid (szV_neg hsz)
    go_enter Try.func7, Try.ntmps7
    go_wp2_with (go_at_call 20; refine (szCst_any _ _ _ _ _ HN.out (by omega) (by omega)).mono ?_; rw [E.out]; rintro e w' ⟨rfl, rfl⟩)
    go_ret
    exact ⟨rfl, by repeat (first | (with_reducible exact Below.refl _ _) | (with_reducible assumption) | (with_reducible refine bl_alloc ?_ _) | (with_reducible refine bl_drew ?_) | (with_reducible refine bl_drewN ?_ _) | ((with_reducible refine bl_set ?_ ?hb _); (case hb => first | (simp; done) | omega | (simp; omega))) | (with_reducible refine bl_trans ?_ (by assumption)))⟩
  have E := Lib.hid (szV_pos hsz)
  have hn2 : n ≤ 1048576 := by omega
  have hn3 : n' ≤ 1048576 := by omega
  have HT := Lib.hid (fun (W : World) (h : Below w.heap.size w W) => toCstS_cap A n cp _ xs W (hr.below h) h.size hn2)
  have HI := Lib.hid (fun (W : World) (h : Below w.heap.size w W) => toIntS_cap A' n' cp' _ os W (hro.below h) h.size hn3)
  go_enter Try.func7, Try.ntmps7
  go_wp2_with (go_at_call 20; refine (szCst_any _ _ _ _ _ HN.out (by omega) (by omega)).mono ?_; rw [E.out]; rintro e w' ⟨rfl, rfl⟩)
  refine (toMachine_any _ _ _ _).mono ?_
  rintro e w1 ⟨rfl, hb⟩
  obtain ⟨hc0, hf0, hz0⟩ := bl_at hb (k := w.heap.size) (by first | assumption | (simp; done) | (simp; omega))
  go_wp2_with fail
  refine (HT.out _ (by repeat (first | (with_reducible exact Below.refl _ _) | (with_reducible assumption) | (with_reducible refine bl_alloc ?_ _) | (with_reducible refine bl_drew ?_) | (with_reducible refine bl_drewN ?_ _) | ((with_reducible refine bl_set ?_ ?hb _); (case hb => first | (simp; done) | omega | (simp; omega))) | (with_reducible refine bl_trans ?_ (by assumption))))).mono ?_
  rintro e w2 ⟨A2, rfl, h2, hb⟩
  obtain ⟨hc0, hf0, hz0⟩ := bl_at hb (k := w.heap.size) (by first | assumption | (simp; done) | (simp; omega))
  go_wp2_with fail
  refine (HI.out _ (by repeat (first | (with_reducible exact Below.refl _ _) | (with_reducible assumption) | (with_reducible refine bl_alloc ?_ _) | (with_reducible refine bl_drew ?_) | (with_reducible refine bl_drewN ?_ _) | ((with_reducible refine bl_set ?_ ?hb _); (case hb => first | (simp; done) | omega | (simp; omega))) | (with_reducible refine bl_trans ?_ (by assumption))))).mono ?_
  rintro e w3 ⟨A3, rfl, h3, hb⟩
  obtain ⟨hc0, hf0, hz0⟩ := bl_at hb (k := w.heap.size) (by first | assumption | (simp; done) | (simp; omega))
  have HO3 := Lib.hid (show Ord w3 A2 A3 n n' n' xs os from ⟨(h2.below hb).rd, h3.rd, hn2, hn3, Nat.le_refl _⟩)
  have HB3 := Lib.hid (show Below w.heap.size w w3 from by repeat (first | (with_reducible exact Below.refl _ _) | (with_reducible assumption) | (with_reducible refine bl_alloc ?_ _) | (with_reducible refine bl_drew ?_) | (with_reducible refine bl_drewN ?_ _) | ((with_reducible refine bl_set ?_ ?hb _); (case hb => first | (simp; done) | omega | (simp; omega))) | (with_reducible refine bl_trans ?_ (by assumption))))
  clear h2 h3 hb
  go_wp2_with fail
  refine (specME_any a h c _ _ n n n' n' xs os _ HO3.out).mono ?_
  rintro e w4 ⟨rfl, hb⟩
  obtain ⟨hc0, hf0, hz0⟩ := bl_at hb (k := w.heap.size) (by first | assumption | (simp; done) | (simp; omega))
  have HB4 := Lib.hid (bl_trans HB3.out hb)
  clear hb
  go_wp2_with fail
  refine (HT.out _ HB4.out).mono ?_
  rintro e w5 ⟨A5, rfl, h5, hb⟩
  obtain ⟨hc0, hf0, hz0⟩ := bl_at hb (k := w.heap.size) (by first | assumption | (simp; done) | (simp; omega))
  have HB5 := Lib.hid (bl_trans HB4.out hb)
  clear hb
  go_wp2_with fail
  refine (HI.out _ HB5.out).mono ?_
  rintro e w6 ⟨A6, rfl, h6, hb⟩
  obtain ⟨hc0, hf0, hz0⟩ := bl_at hb (k := w.heap.size) (by first | assumption | (simp; done) | (simp; omega))
  have HB6 := Lib.hid (bl_trans HB5.out hb)
  have H5 := Lib.hid (h5.below hb)
  have H6 := Lib.hid h6
  clear hb h5 h6
  go_wp2_with fail
  refine (toMachine_any _ _ _ _).mono ?_
  rintro e w7 ⟨rfl, hb⟩
  have HB7 := Lib.hid (bl_trans HB6.out hb)
  have HO7 := Lib.hid (show Ord w7 A5 A6 n n' n' xs os from ⟨(H5.out.below hb).rd, (H6.out.below hb).rd, hn2, hn3, Nat.le_refl _⟩)
  have H57 := Lib.hid (H5.out.below hb)
  have H67 := Lib.hid (H6.out.below hb)
  clear hb hc0 hf0 hz0
  go_wp2_with fail
  refine (implME_any a h c _ _ n n n' n' xs os _ HO7.out).mono ?_
  rintro e w8 ⟨rfl, hb⟩
  have HB8 := Lib.hid (bl_trans HB7.out hb)
  have H58 := Lib.hid (H57.out.below hb)
  have H68 := Lib.hid (H67.out.below hb)
  clear hb
  go_wp2_with fail
  refine (HT.out _ HB8.out).mono ?_
  rintro e w9 ⟨A9, rfl, h9, hb⟩
  have HB9 := Lib.hid (bl_trans HB8.out hb)
  have H59 := Lib.hid (H58.out.below hb)
  have H69 := Lib.hid (H68.out.below hb)
  clear hb
  go_wp2_with fail
  refine (eqCstS_same _ _ _ _ _ _ _ xs _ H59.out.rd h9.rd (Nat.le_refl _) (Nat.le_refl _) HN.out).mono ?_
  rintro e w10 ⟨rfl, hb⟩
  have HB10 := Lib.hid (bl_trans HB9.out hb)
  have H610 := Lib.hid (H69.out.below hb)
  clear hb h9
  go_wp2_with fail
  refine (HI.out _ HB10.out).mono ?_
  rintro e w11 ⟨A11, rfl, h11, hb⟩
  have HB11 := Lib.hid (bl_trans HB10.out hb)
  have H611 := Lib.hid (H610.out.below hb)
  clear hb
  go_wp2_with fail
  refine (eqIntS_any _ _ _ _ _ _ _ _ _ _ _ H611.out.rd h11.rd HNN.out HNN.out).mono ?_
  rintro e w12 ⟨rfl, mm, rfl⟩
  rw [eqL_same]
  go_wp2
  go_ret
  exact ⟨rfl, bl_drewN HB11.out mm⟩
set_option maxHeartbeats 2000000 in
theorem lawDoneBy (a h c : Int) (A : Option Addr) (n cp : Nat) (xs : List Cst) (A' : Option Addr) (n' cp' : Nat) (os : List Int) (m : Int) (w : World) (_ : I64 a) (_ : I64 h) (_ : I64 c) (hr : Rd cCst 2 w w.heap.size A n xs) (hn : n ≤ maxLen) (_ : ∀ x ∈ xs, okCst x) (hro : Rd cI 1 w w.heap.size A' n' os) (hnn : n' ≤ maxLen) (_ : ∀ x ∈ os, I64 x) (_ : I64 m) :
    Calls Try.prog 9 #[.agg #[.int .i64 a, .int .i64 h, .int .i64 c], .slice A n cp, .slice A' n' cp', .int .i64 m] w fun e w' => e = .returned (.bool (true)) ∧ Below w.heap.size w w' := by
  have hn' := hn
  unfold maxLen at hn'
  have hnn' := hnn
  unfold maxLen at hnn'
  have HN := Lib.hid hn
  have HNN := Lib.hid hnn
  clear hn hnn
  by_cases hbig : (1048576 : Int) < (n' : Int)
  · go_enter Try.func9, Try.ntmps9
    go_wp2
    go_ret
    exact ⟨rfl, by repeat (first | (with_reducible exact Below.refl _ _) | (with_reducible assumption) | (with_reducible refine bl_alloc ?_ _) | (with_reducible refine bl_drew ?_) | (with_reducible refine bl_drewN ?_ _) | ((with_reducible refine bl_set ?_ ?hb _); (case hb => first | (simp; done) | omega | (simp; omega))) | (with_reducible refine bl_trans ?_ (by assumption)))⟩
  by_cases hsz : (1048576 : Int) - n < 0
  · have E := Lib.hid (szV_neg hsz)
    go_enter Try.func9, Try.ntmps9
    go_wp2_with (go_at_call 20; refine (szCst_any _ _ _ _ _ HN.out (by omega) (by omega)).mono ?_; rw [E.out]; rintro e w' ⟨rfl, rfl⟩)
    go_ret
    exact ⟨rfl, by repeat (first | (with_reducible exact Below.refl _ _) | (with_reducible assumption) | (with_reducible refine bl_alloc ?_ _) | (with_reducible refine bl_drew ?_) | (with_reducible refine bl_drewN ?_ _) | ((with_reducible refine bl_set ?_ ?hb _); (case hb => first | (simp; done) | omega | (simp; omega))) | (with_reducible refine bl_trans ?_ (by assumption)))⟩
  have E := Lib.hid (szV_pos hsz)
  have hn2 : n ≤ 1048576 := by omega
  have hn3 : n' ≤ 1048576 := by omega
  have HT := Lib.hid (fun (W : World) (h : Below w.heap.size w W) => toCstS_cap A n cp _ xs W (hr.below h) h.size hn2)
  have HI := Lib.hid (fun (W : World) (h : Below w.heap.size w W) => toIntS_cap A' n' cp' _ os W (hro.below h) h.size hn3)
  go_enter Try.func9, Try.ntmps9
  go_wp2_with (go_at_call 20; refine (szCst_any _ _ _ _ _ HN.out (by omega) (by omega)).mono ?_; rw [E.out]; rintro e w' ⟨rfl, rfl⟩)
  refine (toMachine_any _ _ _ _).mono ?_
  rintro e w1 ⟨rfl, hb⟩
  obtain ⟨hc0, hf0, hz0⟩ := bl_at hb (k := w.heap.size) (by first | assumption | (simp; done) | (simp; omega))
  go_wp2_with fail
  refine (HT.out _ (by repeat (first | (with_reducible exact Below.refl _ _) | (with_reducible assumption) | (with_reducible refine bl_alloc ?_ _) | (with_reducible refine bl_drew ?_) | (with_reducible refine bl_drewN ?_ _) | ((with_reducible refine bl_set ?_ ?hb _); (case hb => first | (simp; done) | omega | (simp; omega))) | (with_reducible refine bl_trans ?_ (by assumption))))).mono ?_
  rintro e w2 ⟨A2, rfl, h2, hb⟩
  obtain ⟨hc0, hf0, hz0⟩ := bl_at hb (k := w.heap.size) (by first | assumption | (simp; done) | (simp; omega))
  go_wp2_with fail
  refine (HI.out _ (by repeat (first | (with_reducible exact Below.refl _ _) | (with_reducible assumption) | (with_reducible refine bl_alloc ?_ _) | (with_reducible refine bl_drew ?_) | (with_reducible refine bl_drewN ?_ _) | ((with_reducible refine bl_set ?_ ?hb _); (case hb => first | (simp; done) | omega | (simp; omega))) | (with_reducible refine bl_trans ?_ (by assumption))))).mono ?_
  rintro e w3 ⟨A3, rfl, h3, hb⟩
  obtain ⟨hc0, hf0, hz0⟩ := bl_at hb (k := w.heap.size) (by first | assumption | (simp; done) | (simp; omega))
  have HO3 := Lib.hid (show Ord w3 A2 A3 n n' n' xs os from ⟨(h2.below hb).rd, h3.rd, hn2, hn3, Nat.le_refl _⟩)
  have HB3 := Lib.hid (show Below w.heap.size w w3 from by repeat (first | (with_reducible exact Below.refl _ _) | (with_reducible assumption) | (with_reducible refine bl_alloc ?_ _) | (with_reducible refine bl_drew ?_) | (with_reducible refine bl_drewN ?_ _) | ((with_reducible refine bl_set ?_ ?hb _); (case hb => first | (simp; done) | omega | (simp; omega))) | (with_reducible refine bl_trans ?_ (by assumption))))
  clear h2 h3 hb
  go_wp2_with fail
  refine (specDB_any a h c _ _ n n n' n' xs os m _ HO3.out).mono ?_
  rintro e w4 ⟨rfl, hb⟩
  obtain ⟨hc0, hf0, hz0⟩ := bl_at hb (k := w.heap.size) (by first | assumption | (simp; done) | (simp; omega))
  have HB4 := Lib.hid (bl_trans HB3.out hb)
  clear hb
  go_wp2_with fail
  refine (HT.out _ HB4.out).mono ?_
  rintro e w5 ⟨A5, rfl, h5, hb⟩
  obtain ⟨hc0, hf0, hz0⟩ := bl_at hb (k := w.heap.size) (by first | assumption | (simp; done) | (simp; omega))
  have HB5 := Lib.hid (bl_trans HB4.out hb)
  clear hb
  go_wp2_with fail
  refine (HI.out _ HB5.out).mono ?_
  rintro e w6 ⟨A6, rfl, h6, hb⟩
  obtain ⟨hc0, hf0, hz0⟩ := bl_at hb (k := w.heap.size) (by first | assumption | (simp; done) | (simp; omega))
  have HB6 := Lib.hid (bl_trans HB5.out hb)
  have H5 := Lib.hid (h5.below hb)
  have H6 := Lib.hid h6
  clear hb h5 h6
  go_wp2_with fail
  refine (toMachine_any _ _ _ _).mono ?_
  rintro e w7 ⟨rfl, hb⟩
  have HB7 := Lib.hid (bl_trans HB6.out hb)
  have HO7 := Lib.hid (show Ord w7 A5 A6 n n' n' xs os from ⟨(H5.out.below hb).rd, (H6.out.below hb).rd, hn2, hn3, Nat.le_refl _⟩)
  have H57 := Lib.hid (H5.out.below hb)
  have H67 := Lib.hid (H6.out.below hb)
  clear hb hc0 hf0 hz0
  go_wp2_with fail
  refine (implDB_any a h c _ _ n n n' n' xs os m _ HO7.out).mono ?_
  rintro e w8 ⟨rfl, hb⟩
  have HB8 := Lib.hid (bl_trans HB7.out hb)
  have H58 := Lib.hid (H57.out.below hb)
  have H68 := Lib.hid (H67.out.below hb)
  clear hb
  go_wp2_with fail
  refine (HT.out _ HB8.out).mono ?_
  rintro e w9 ⟨A9, rfl, h9, hb⟩
  have HB9 := Lib.hid (bl_trans HB8.out hb)
  have H59 := Lib.hid (H58.out.below hb)
  have H69 := Lib.hid (H68.out.below hb)
  clear hb
  go_wp2_with fail
  refine (eqCstS_same _ _ _ _ _ _ _ xs _ H59.out.rd h9.rd (Nat.le_refl _) (Nat.le_refl _) HN.out).mono ?_
  rintro e w10 ⟨rfl, hb⟩
  have HB10 := Lib.hid (bl_trans HB9.out hb)
  have H610 := Lib.hid (H69.out.below hb)
  clear hb h9
  go_wp2_with fail
  refine (HI.out _ HB10.out).mono ?_
  rintro e w11 ⟨A11, rfl, h11, hb⟩
  have HB11 := Lib.hid (bl_trans HB10.out hb)
  have H611 := Lib.hid (H610.out.below hb)
  clear hb
  go_wp2_with fail
  refine (eqIntS_any _ _ _ _ _ _ _ _ _ _ _ H611.out.rd h11.rd HNN.out HNN.out).mono ?_
  rintro e w12 ⟨rfl, mm, rfl⟩
  rw [eqL_same]
  go_wp2
  go_ret
  exact ⟨rfl, bl_drewN HB11.out mm⟩
end Go.Proofs.Ytabmhmbmdegoaaa
