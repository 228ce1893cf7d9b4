/-
  EndsOf: the law's walk.
-/
import Derived.Test.YtabmhmbmdegoaaaCs5
namespace Go.Proofs.Ytabmhmbmdegoaaa
open Go.RowKit
set_option linter.unusedVariables false
attribute [local go_sem ↓] Go.wp_at_zero Go.wp_at_succ

theorem endsL_len (a h c : Int) (xs : List Cst) (os : List Int) : (endsL a h c xs os).length ≤ os.length := by
  unfold endsL
  split
  · rename_i hb
    obtain ⟨_, _, g3⟩ := ord_in hb
    rw [csTo_len g3 _ (Nat.le_refl _)]
    exact Nat.le_refl _
  · simp
set_option maxHeartbeats 4000000 in
theorem lawEndsOf (a h c : Int) (A : Option Addr) (n cp : Nat) (xs : List Cst) (A' : Option Addr) (n' cp' : Nat) (os : List Int) (w : World) (_ : I64 a) (_ : I64 h) (_ : I64 c) (hr : Rd cCst 2 w w.heap.size A n xs) (hn : n ≤ maxLen) (_ : ∀ x ∈ xs, okCst x) (hro : Rd cI 1 w w.heap.size A' n' os) (hnn : n' ≤ maxLen) (_ : ∀ x ∈ os, I64 x) :
    Calls Try.prog 10 #[.agg #[.int .i64 a, .int .i64 h, .int .i64 c], .slice A n cp, .slice A' n' cp'] w fun e w' => e = .returned (.bool (true)) ∧ Below w.heap.size w w' := by
  have hLen := endsL_len a h c xs os
  have hlo := hro.1
  have H1 := Lib.hid (fun A1 A2 W (ho : Ord W A1 A2 n n' n' xs os) => specEO_any a h c A1 A2 n n n' n' xs os W ho)
  have H2 := Lib.hid (fun A1 A2 W (ho : Ord W A1 A2 n n' n' xs os) => implEO_any a h c A1 A2 n n n' n' xs os W ho)
  obtain ⟨L, hLL⟩ : ∃ L, L = endsL a h c xs os := ⟨_, rfl⟩
  obtain ⟨v, hv⟩ : ∃ v, v = ordB a h c xs os := ⟨_, rfl⟩
  rw [← hLL, ← hv] at H1 H2
  rw [← hLL] at hLen
  clear hLL hv
  have heq := Lib.hid (eqL_same L)
  have hn' := hn
  unfold maxLen at hn'
  have hnn' := hnn
  unfold maxLen at hnn'
  have HN := Lib.hid hn
  have HNN := Lib.hid hnn
  clear hn hnn
  by_cases hbig : (1048576 : Int) < (n' : Int)
  · go_enter Try.func10, Try.ntmps10
    go_wp2
    go_ret
    exact ⟨rfl, by repeat (first | (with_reducible exact Below.refl _ _) | (with_reducible assumption) | (with_reducible refine bl_alloc ?_ _) | (with_reducible refine bl_drew ?_) | (with_reducible refine bl_drewN ?_ _) | ((with_reducible refine bl_set ?_ ?hb _); (case hb => first | (simp; done) | omega | (simp; omega))) | (with_reducible refine bl_trans ?_ (by assumption)))⟩
  by_cases hsz : (1048576 : Int) - n < 0
  · have E := Lib.hid (szV_neg hsz)
    go_enter Try.func10, Try.ntmps10
    go_wp2_with (go_at_call 20; refine (szCst_any _ _ _ _ _ HN.out (by omega) (by omega)).mono ?_; rw [E.out]; rintro e w' ⟨rfl, rfl⟩)
    go_ret
    exact ⟨rfl, by repeat (first | (with_reducible exact Below.refl _ _) | (with_reducible assumption) | (with_reducible refine bl_alloc ?_ _) | (with_reducible refine bl_drew ?_) | (with_reducible refine bl_drewN ?_ _) | ((with_reducible refine bl_set ?_ ?hb _); (case hb => first | (simp; done) | omega | (simp; omega))) | (with_reducible refine bl_trans ?_ (by assumption)))⟩
  have E := Lib.hid (szV_pos hsz)
  have hn2 : n ≤ 1048576 := by omega
  have hn3 : n' ≤ 1048576 := by omega
  have HT := Lib.hid (fun (W : World) (h : Below w.heap.size w W) => toCstS_cap A n cp _ xs W (hr.below h) h.size hn2)
  have HI := Lib.hid (fun (W : World) (h : Below w.heap.size w W) => toIntS_cap A' n' cp' _ os W (hro.below h) h.size hn3)
  go_enter Try.func10, Try.ntmps10
  go_wp2_with (go_at_call 20; refine (szCst_any _ _ _ _ _ HN.out (by omega) (by omega)).mono ?_; rw [E.out]; rintro e w' ⟨rfl, rfl⟩)
  refine (toMachine_any _ _ _ _).mono ?_
  rintro e w1 ⟨rfl, hb⟩
  obtain ⟨hc0, hf0, hz0⟩ := bl_at hb (k := w.heap.size) (by first | assumption | (simp; done) | (simp; omega))
  go_wp2_with fail
  refine (HT.out _ (by repeat (first | (with_reducible exact Below.refl _ _) | (with_reducible assumption) | (with_reducible refine bl_alloc ?_ _) | (with_reducible refine bl_drew ?_) | (with_reducible refine bl_drewN ?_ _) | ((with_reducible refine bl_set ?_ ?hb _); (case hb => first | (simp; done) | omega | (simp; omega))) | (with_reducible refine bl_trans ?_ (by assumption))))).mono ?_
  rintro e w2 ⟨A2, rfl, h2, hb⟩
  obtain ⟨hc0, hf0, hz0⟩ := bl_at hb (k := w.heap.size) (by first | assumption | (simp; done) | (simp; omega))
  go_wp2_with fail
  refine (HI.out _ (by repeat (first | (with_reducible exact Below.refl _ _) | (with_reducible assumption) | (with_reducible refine bl_alloc ?_ _) | (with_reducible refine bl_drew ?_) | (with_reducible refine bl_drewN ?_ _) | ((with_reducible refine bl_set ?_ ?hb _); (case hb => first | (simp; done) | omega | (simp; omega))) | (with_reducible refine bl_trans ?_ (by assumption))))).mono ?_
  rintro e w3 ⟨A3, rfl, h3, hb⟩
  obtain ⟨hc0, hf0, hz0⟩ := bl_at hb (k := w.heap.size) (by first | assumption | (simp; done) | (simp; omega))
  have HO3 := Lib.hid (show Ord w3 A2 A3 n n' n' xs os from ⟨(h2.below hb).rd, h3.rd, hn2, hn3, Nat.le_refl _⟩)
  have HB3 := Lib.hid (show Below w.heap.size w w3 from by repeat (first | (with_reducible exact Below.refl _ _) | (with_reducible assumption) | (with_reducible refine bl_alloc ?_ _) | (with_reducible refine bl_drew ?_) | (with_reducible refine bl_drewN ?_ _) | ((with_reducible refine bl_set ?_ ?hb _); (case hb => first | (simp; done) | omega | (simp; omega))) | (with_reducible refine bl_trans ?_ (by assumption))))
  clear h2 h3 hb
  go_wp2_with fail
  have hL : L.length ≤ 1048576 := by omega
  refine (H1.out _ _ _ HO3.out).mono ?_
  rintro e w4 ⟨A0, cap0, rfl, hw0, hb⟩
  obtain ⟨hc0, hf0, hz0⟩ := bl_at hb (k := w.heap.size) (by first | assumption | (simp; done) | (simp; omega))
  have HB4 := Lib.hid (bl_trans HB3.out hb)
  have HR0 := Lib.hid hw0.rd
  have m0 : w4.cell? ⟨w.heap.size, 0, none⟩ = some (.int .i64 a) := by go_simp
  have m1 : w4.cell? ⟨w.heap.size, 1, none⟩ = some (.int .i64 h) := by go_simp
  have m2 : w4.cell? ⟨w.heap.size, 2, none⟩ = some (.int .i64 c) := by go_simp
  have M0 := Lib.hid m0
  have M1 := Lib.hid m1
  have M2 := Lib.hid m2
  have hz4 : w.heap.size < w4.heap.size := hz0
  clear m0 m1 m2
  clear hb hw0
  go_wp2_with fail
  refine (HT.out _ HB4.out).mono ?_
  rintro e w5 ⟨A5, rfl, h5, hb⟩
  obtain ⟨hc0, hf0, hz0⟩ := bl_at hb (k := w.heap.size) (by first | assumption | (simp; done) | (simp; omega))
  have HB5 := Lib.hid (bl_trans HB4.out hb)
  have B45 := Lib.hid hb
  have hs45 := hb.size
  have H5 := Lib.hid h5
  clear hb h5
  go_wp2_with fail
  refine (HI.out _ HB5.out).mono ?_
  rintro e w6 ⟨A6, rfl, h6, hb⟩
  obtain ⟨hc0, hf0, hz0⟩ := bl_at hb (k := w.heap.size) (by first | assumption | (simp; done) | (simp; omega))
  have HB6 := Lib.hid (bl_trans HB5.out hb)
  have B46 := Lib.hid (bl_trans B45.out hb)
  have hs56 := hb.size
  have H56 := Lib.hid (H5.out.below hb)
  have H6 := Lib.hid h6
  clear hb h6
  go_wp2_with fail
  refine (toMachine_any _ _ _ _).mono ?_
  rintro e w7 ⟨rfl, hb⟩
  obtain ⟨hc0, hf0, hz0⟩ := bl_at hb (k := w.heap.size) (by first | assumption | (simp; done) | (simp; omega))
  have HB7 := Lib.hid (bl_trans HB6.out hb)
  have B47 := Lib.hid (bl_trans B46.out hb)
  have hs67 := hb.size
  have HO7 := Lib.hid (show Ord w7 A5 A6 n n' n' xs os from ⟨(H56.out.below hb).rd, (H6.out.below hb).rd, hn2, hn3, Nat.le_refl _⟩)
  have H57 := Lib.hid (H56.out.below hb)
  have H67 := Lib.hid (H6.out.below hb)
  clear hb
  go_wp2_with fail
  refine (H2.out _ _ _ HO7.out).mono ?_
  rintro e w8 ⟨A8, cap8, rfl, hg8, hb⟩
  obtain ⟨hc0, hf0, hz0⟩ := bl_at hb (k := w.heap.size) (by first | assumption | (simp; done) | (simp; omega))
  have HB8 := Lib.hid (bl_trans HB7.out hb)
  have B48 := Lib.hid (bl_trans B47.out hb)
  have hs78 := hb.size
  have H58 := Lib.hid (H57.out.below hb)
  have H68 := Lib.hid (H67.out.below hb)
  have HG8 := Lib.hid hg8
  have HR8 := Lib.hid (HR0.out.below B48.out)
  have HBX := Lib.hid (And.intro hc0 (And.intro hf0 hz0))
  clear hb hg8 hc0 hf0 hz0
  go_wp2_with fail
  refine (eqIntS_any _ _ _ _ _ _ _ _ _ _ _ HG8.out.rd HR8.out (by unfold maxLen; omega) (by unfold maxLen; omega)).mono ?_
  rintro e w9 ⟨rfl, m1, rfl⟩
  rw [heq.out]
  go_wp2_with fail
  refine (HT.out _ (bl_drewN HB8.out m1)).mono ?_
  rintro e w10 ⟨A10, rfl, h10, hb⟩
  have B8 := Lib.hid (show Below w8.heap.size w8 w10 from bl_und hb)
  clear hb
  go_wp2_with fail
  refine (eqCstS_same _ _ _ _ _ _ _ xs _ (H58.out.below B8.out).rd h10.rd (Nat.le_refl _) (Nat.le_refl _) HN.out).mono ?_
  rintro e w11 ⟨rfl, hb⟩
  have B811 := Lib.hid (bl_trans B8.out hb)
  clear hb h10
  go_wp2_with fail
  refine (HI.out _ (bl_trans HB8.out B811.out)).mono ?_
  rintro e w12 ⟨A12, rfl, h12, hb⟩
  have B812 := Lib.hid (bl_trans B811.out hb)
  clear hb
  go_wp2_with fail
  refine (eqIntS_any _ _ _ _ _ _ _ _ _ _ _ (H68.out.below B812.out).rd h12.rd HNN.out HNN.out).mono ?_
  rintro e w13 ⟨rfl, m2, rfl⟩
  rw [eqL_same]
  clear h12
  have B812d := Lib.hid (bl_drewN B812.out m2)
  go_wp2_with fail
  refine (markCstS_row _ _ _ _ xs 1 _ (show WrT cCst 2 (w12.drewN m2) _ A5 n xs from H58.out.below B812d.out) hn2 (by omega) (by omega)).mono ?_
  rintro e w14 ⟨rfl, ⟨row, hgr, hrow⟩, hs14⟩
  have hs814 : w8.heap.size ≤ w12.heap.size := B812.out.size
  have hs1214 : w12.heap.size = w14.heap.size := hs14
  have HROW := Lib.hid (show ∀ k, row = some k → w4.heap.size ≤ k ∧ k < w5.heap.size from fun k hk => wrT_rowOf H5.out (hrow k hk))
  have HG14 := Lib.hid (show Wr w14 w7.heap.size A8 _ L from wr_row (show Wr (w12.drewN m2) w7.heap.size A8 _ L from HG8.out.below B812d.out) hgr (fun k hk => by have := (HROW.out k hk).2; omega))
  have H614 := Lib.hid (show Wr w14 w5.heap.size A6 n' os from wr_row (show Wr (w12.drewN m2) w5.heap.size A6 n' os from H68.out.below B812d.out) hgr (fun k hk => (HROW.out k hk).2))
  have B414 := Lib.hid (show Below w4.heap.size w4 w14 from (bl_trans B48.out B812d.out).trans (gr_belowR hgr (fun k hk => (HROW.out k hk).1) (by simp; omega)))
  clear hgr hrow hs14
  go_wp2_with fail
  refine (markIntS_row _ _ _ _ _ _ _ H614.out (by omega) (by omega) (by omega)).mono ?_
  rintro e w15 ⟨rfl, ⟨row2, hgr, hrow⟩, hs15⟩
  have HROW2 := Lib.hid (show ∀ k, row2 = some k → w5.heap.size ≤ k ∧ k < w6.heap.size from fun k hk => wr_rowOf H6.out (hrow k hk))
  have HG15 := Lib.hid (show Wr w15 w7.heap.size A8 _ L from wr_row HG14.out hgr (fun k hk => by have := (HROW2.out k hk).2; omega))
  have B415 := Lib.hid (show Below w4.heap.size w4 w15 from B414.out.trans (gr_belowR hgr (fun k hk => by have := (HROW2.out k hk).1; omega) (by omega)))
  have HR15 := Lib.hid (HR0.out.below B415.out)
  have hs415 := B415.out.size
  have hkn : ¬ (1 : Int) + 2 * (n : Int) + (n' : Int) < 0 := by omega
  clear hgr hrow hs15
  go_wp2_with fail
  refine (eqIntS_any _ _ _ _ _ _ _ _ _ _ _ HG15.out.rd HR15.out (by unfold maxLen; omega) (by unfold maxLen; omega)).mono ?_
  rintro e w16 ⟨rfl, m3, rfl⟩
  rw [heq.out]
  go_wp2_with fail
  refine (markIntS_any _ _ _ _ _ _ _ (show Wr (w15.drewN m3) w7.heap.size A8 _ _ from HG15.out) (by omega) (by omega) (by omega)).mono ?_
  rintro e w17 ⟨rfl, hg17, hb17, hs17⟩
  have HG17 := Lib.hid hg17
  have B417 := Lib.hid (show Below w4.heap.size w4 w17 from B415.out.trans ((show Below w7.heap.size w15 w17 from bl_und hb17).mono (by omega)))
  have HW17 := Lib.hid (bl_trans HB4.out B417.out)
  have HR17 := Lib.hid (HR0.out.below B417.out)
  clear hg17 hb17 hs17
  go_wp2_with fail
  refine (heldIntS_any _ _ _ _ _ _ HG17.out.rd (by omega) (by omega) (by omega)).mono ?_
  rintro e w18 ⟨rfl, rfl⟩
  obtain ⟨hcb, _, hzb⟩ := bl_at B417.out (k := w.heap.size) hz4
  have x0 := (hcb 0).trans M0.out
  have x1 := (hcb 1).trans M1.out
  have x2 := (hcb 2).trans M2.out
  have hs417 := B417.out.size
  clear hcb
  go_wp2_with fail
  refine (toMachine_any _ _ _ _).mono ?_
  rintro e w19 ⟨rfl, hb⟩
  have BB := Lib.hid hb
  clear hb x0 x1 x2
  go_wp2_with fail
  refine (HT.out _ (bl_trans HW17.out BB.out)).mono ?_
  rintro e w20 ⟨A20, rfl, h20, hb⟩
  have B20 := Lib.hid (bl_trans BB.out hb)
  clear hb
  go_wp2_with fail
  refine (HI.out _ (bl_trans HW17.out B20.out)).mono ?_
  rintro e w21 ⟨A21, rfl, h21, hb⟩
  have B21 := Lib.hid (bl_trans B20.out hb)
  have HO21 := Lib.hid (show Ord w21 A20 A21 n n' n' xs os from ⟨(h20.below hb).rd, h21.rd, hn2, hn3, Nat.le_refl _⟩)
  clear hb h20 h21
  go_wp2_with fail
  refine (H2.out _ _ _ HO21.out).mono ?_
  rintro e w22 ⟨A22, cap22, rfl, hh22, hb⟩
  have B22 := Lib.hid (show Below w17.heap.size w17 w22 from bl_trans B21.out hb)
  have HH22 := Lib.hid hh22
  have HR22 := Lib.hid (HR17.out.below (B22.out.mono (by omega)))
  have HG22 := Lib.hid (HG17.out.below B22.out)
  clear hb hh22
  go_wp2_with fail
  refine (eqIntS_any _ _ _ _ _ _ _ _ _ _ _ HH22.out.rd HR22.out (by unfold maxLen; omega) (by unfold maxLen; omega)).mono ?_
  rintro e w23 ⟨rfl, m4, rfl⟩
  rw [heq.out]
  go_wp2_with fail
  refine (heldIntS_any _ _ _ _ _ _ (show Rd cI 1 (w22.drewN m4) w22.heap.size A8 _ _ from HG22.out.rd) (by omega) (by omega) (by omega)).mono ?_
  rintro e w24 ⟨rfl, rfl⟩
  go_wp2
  go_ret
  exact ⟨rfl, bl_drewN (bl_trans HW17.out B22.out) m4⟩
end Go.Proofs.Ytabmhmbmdegoaaa
