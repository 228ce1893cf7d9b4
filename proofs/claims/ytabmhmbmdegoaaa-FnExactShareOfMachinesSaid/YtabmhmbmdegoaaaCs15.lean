/-
  MostCastings: the law's walk.
-/
import Derived.Test.YtabmhmbmdegoaaaCs14
namespace Go.Proofs.Ytabmhmbmdegoaaa
open Go.RowKit
set_option linter.unusedVariables false
attribute [local go_sem ↓] Go.wp_at_zero Go.wp_at_succ

theorem msFirst_len {n : Nat} {L best : List Int} (h1 : L.length ≤ n) (h2 : best.length ≤ n) : (msFirst L best).length ≤ n := by
  unfold msFirst; split <;> assumption
theorem ms_len {n : Nat} {t : List Int → Int} {mins : Int} : ∀ (f : Nat) (L best : List Int), L.length + f = n → best.length ≤ n → (ms n t mins f L best).length ≤ n
  | 0, L, best, h, hb => msFirst_len (by omega) hb
  | f + 1, L, best, h, hb => by
    rw [← msK_end]
    have : ∀ k, (msK n t mins (f + 1) L best k).length ≤ n := fun k => by
      induction k with
      | zero => rw [msK_zero]; exact msFirst_len (by omega) hb
      | succ k ih =>
        by_cases hfull : (msK n t mins (f + 1) L best k).length = n
        · rw [msK_full hfull 1]; exact ih
        · rcases hh : hasI L (k : Int) with _ | _
          · by_cases hl : t (L ++ [(k : Int)]) ≤ mins
            · rw [msK_go (by omega) hfull hh hl]
              exact ms_len f _ _ (by rw [List.length_append, List.length_singleton]; omega) ih
            · rw [msK_skip (.inr hl)]; exact ih
          · rw [msK_skip (.inl hh)]; exact ih
    exact this n
theorem mcL_len (a h c : Int) (xs : List Cst) (mins : Int) : (mcL a h c xs mins).length ≤ 8 := by
  unfold mcL
  split
  · rename_i hb
    unfold mcB at hb
    simp only [Bool.and_eq_true] at hb
    have := casts_len hb.2.1
    have := ms_len (n := xs.length) (t := tmV a h c xs) (mins := mins) xs.length [] [] (by simp) (by simp)
    omega
  · simp
set_option maxHeartbeats 4000000 in
theorem lawMostCastings (a h c : Int) (A : Option Addr) (n cp : Nat) (xs : List Cst) (mins : Int) (w : World) (_ : I64 a) (_ : I64 h) (_ : I64 c) (hr : Rd cCst 2 w w.heap.size A n xs) (hn : n ≤ maxLen) (_ : ∀ x ∈ xs, okCst x) (_ : I64 mins) :
    Calls Try.prog 11 #[.agg #[.int .i64 a, .int .i64 h, .int .i64 c], .slice A n cp, .int .i64 mins] w fun e w' => e = .returned (.bool (true)) ∧ Below w.heap.size w w' := by
  have hLen := mcL_len a h c xs mins
  have H1 := Lib.hid (fun A1 W (hr : Rd cCst 2 W W.heap.size A1 n xs) (hn : n ≤ 1048576) => specMC_any a h c A1 n n xs mins W hr hn)
  have H2 := Lib.hid (fun A1 W (hr : Rd cCst 2 W W.heap.size A1 n xs) (hn : n ≤ 1048576) => implMC_any a h c A1 n n xs mins W hr hn)
  obtain ⟨L, hLL⟩ : ∃ L, L = mcL a h c xs mins := ⟨_, rfl⟩
  obtain ⟨v, hv⟩ : ∃ v, v = mcB a h c xs mins := ⟨_, rfl⟩
  rw [← hLL, ← hv] at H1 H2
  rw [← hLL] at hLen
  clear hLL hv
  have heq := Lib.hid (eqL_same L)
  have hn' := hn
  unfold maxLen at hn'
  have HN := Lib.hid hn
  clear hn
  by_cases hsz : (1048576 : Int) - n < 0
  · have E := Lib.hid (szV_neg hsz)
    go_enter Try.func11, Try.ntmps11
    go_wp2_with (go_at_call 20; refine (szCst_any _ _ _ _ _ HN.out (by omega) (by omega)).mono ?_; rw [E.out]; rintro e w' ⟨rfl, rfl⟩)
    go_ret
    exact ⟨rfl, by repeat (first | (with_reducible exact Below.refl _ _) | (with_reducible assumption) | (with_reducible refine bl_alloc ?_ _) | (with_reducible refine bl_drew ?_) | (with_reducible refine bl_drewN ?_ _) | ((with_reducible refine bl_set ?_ ?hb _); (case hb => first | (simp; done) | omega | (simp; omega))) | (with_reducible refine bl_trans ?_ (by assumption)))⟩
  have E := Lib.hid (szV_pos hsz)
  have hn2 : n ≤ 1048576 := by omega
  have HT := Lib.hid (fun (W : World) (h : Below w.heap.size w W) => toCstS_cap A n cp _ xs W (hr.below h) h.size hn2)
  go_enter Try.func11, Try.ntmps11
  go_wp2_with (go_at_call 20; refine (szCst_any _ _ _ _ _ HN.out (by omega) (by omega)).mono ?_; rw [E.out]; rintro e w' ⟨rfl, rfl⟩)
  refine (toMachine_any _ _ _ _).mono ?_
  rintro e w1 ⟨rfl, hb⟩
  obtain ⟨hc0, hf0, hz0⟩ := bl_at hb (k := w.heap.size) (by first | assumption | (simp; done) | (simp; omega))
  go_wp2_with fail
  refine (HT.out _ (by repeat (first | (with_reducible exact Below.refl _ _) | (with_reducible assumption) | (with_reducible refine bl_alloc ?_ _) | (with_reducible refine bl_drew ?_) | (with_reducible refine bl_drewN ?_ _) | ((with_reducible refine bl_set ?_ ?hb _); (case hb => first | (simp; done) | omega | (simp; omega))) | (with_reducible refine bl_trans ?_ (by assumption))))).mono ?_
  rintro e w2 ⟨A2, rfl, h2, hb⟩
  obtain ⟨hc0, hf0, hz0⟩ := bl_at hb (k := w.heap.size) (by first | assumption | (simp; done) | (simp; omega))
  have HO3 := Lib.hid h2.rd
  have HB3 := Lib.hid (show Below w.heap.size w w2 from by repeat (first | (with_reducible exact Below.refl _ _) | (with_reducible assumption) | (with_reducible refine bl_alloc ?_ _) | (with_reducible refine bl_drew ?_) | (with_reducible refine bl_drewN ?_ _) | ((with_reducible refine bl_set ?_ ?hb _); (case hb => first | (simp; done) | omega | (simp; omega))) | (with_reducible refine bl_trans ?_ (by assumption))))
  clear h2 hb
  go_wp2_with fail
  refine (H1.out _ _ HO3.out hn2).mono ?_
  rintro e w4 ⟨A0, cap0, rfl, hw0, hb⟩
  obtain ⟨hc0, hf0, hz0⟩ := bl_at hb (k := w.heap.size) (by first | assumption | (simp; done) | (simp; omega))
  have HB4 := Lib.hid (bl_trans HB3.out hb)
  have HR0 := Lib.hid hw0.rd
  have m0 : w4.cell? ⟨w.heap.size, 0, none⟩ = some (.int .i64 a) := by go_simp
  have m1 : w4.cell? ⟨w.heap.size, 1, none⟩ = some (.int .i64 h) := by go_simp
  have m2 : w4.cell? ⟨w.heap.size, 2, none⟩ = some (.int .i64 c) := by go_simp
  have M0 := Lib.hid m0
  have M1 := Lib.hid m1
  have M2 := Lib.hid m2
  have hz4 : w.heap.size < w4.heap.size := hz0
  clear m0 m1 m2
  clear hb hw0
  go_wp2_with fail
  refine (HT.out _ HB4.out).mono ?_
  rintro e w5 ⟨A5, rfl, h5, hb⟩
  obtain ⟨hc0, hf0, hz0⟩ := bl_at hb (k := w.heap.size) (by first | assumption | (simp; done) | (simp; omega))
  have HB5 := Lib.hid (bl_trans HB4.out hb)
  have B45 := Lib.hid hb
  have hs45 := hb.size
  have H5 := Lib.hid h5
  clear hb h5
  go_wp2_with fail
  refine (toMachine_any _ _ _ _).mono ?_
  rintro e w7 ⟨rfl, hb⟩
  obtain ⟨hc0, hf0, hz0⟩ := bl_at hb (k := w.heap.size) (by first | assumption | (simp; done) | (simp; omega))
  have HB7 := Lib.hid (bl_trans HB5.out hb)
  have B47 := Lib.hid (bl_trans B45.out hb)
  have hs57 := hb.size
  have H57 := Lib.hid (H5.out.below hb)
  have HO7 := Lib.hid (H5.out.below hb).rd
  clear hb
  go_wp2_with fail
  refine (H2.out _ _ HO7.out hn2).mono ?_
  rintro e w8 ⟨A8, cap8, rfl, hg8, hb⟩
  obtain ⟨hc0, hf0, hz0⟩ := bl_at hb (k := w.heap.size) (by first | assumption | (simp; done) | (simp; omega))
  have HB8 := Lib.hid (bl_trans HB7.out hb)
  have B48 := Lib.hid (bl_trans B47.out hb)
  have hs78 := hb.size
  have H58 := Lib.hid (H57.out.below hb)
  have HG8 := Lib.hid hg8
  have HR8 := Lib.hid (HR0.out.below B48.out)
  have HBX := Lib.hid (And.intro hc0 (And.intro hf0 hz0))
  clear hb hg8 hc0 hf0 hz0
  go_wp2_with fail
  refine (eqIntS_any _ _ _ _ _ _ _ _ _ _ _ HG8.out.rd HR8.out (by unfold maxLen; omega) (by unfold maxLen; omega)).mono ?_
  rintro e w9 ⟨rfl, m1, rfl⟩
  rw [heq.out]
  go_wp2_with fail
  refine (HT.out _ (bl_drewN HB8.out m1)).mono ?_
  rintro e w10 ⟨A10, rfl, h10, hb⟩
  have B8 := Lib.hid (show Below w8.heap.size w8 w10 from bl_und hb)
  clear hb
  go_wp2_with fail
  refine (eqCstS_same _ _ _ _ _ _ _ xs _ (H58.out.below B8.out).rd h10.rd (Nat.le_refl _) (Nat.le_refl _) HN.out).mono ?_
  rintro e w11 ⟨rfl, hb⟩
  have B811 := Lib.hid (bl_trans B8.out hb)
  clear hb h10
  go_wp2_with fail
  refine (markCstS_row _ _ _ _ xs 1 _ (show WrT cCst 2 w11 _ A5 n xs from H58.out.below B811.out) hn2 (by omega) (by omega)).mono ?_
  rintro e w14 ⟨rfl, ⟨row, hgr, hrow⟩, hs14⟩
  have hs811 : w8.heap.size ≤ w11.heap.size := B811.out.size
  have hs1114 : w11.heap.size = w14.heap.size := hs14
  have HROW := Lib.hid (show ∀ k, row = some k → w4.heap.size ≤ k ∧ k < w5.heap.size from fun k hk => wrT_rowOf H5.out (hrow k hk))
  have HG15 := Lib.hid (show Wr w14 w7.heap.size A8 _ L from wr_row (show Wr w11 w7.heap.size A8 _ L from HG8.out.below B811.out) hgr (fun k hk => by have := (HROW.out k hk).2; omega))
  have B415 := Lib.hid (show Below w4.heap.size w4 w14 from (bl_trans B48.out B811.out).trans (gr_belowR hgr (fun k hk => (HROW.out k hk).1) (by omega)))
  have HR15 := Lib.hid (HR0.out.below B415.out)
  have hs415 := B415.out.size
  have hkn : ¬ (1 : Int) + 2 * (n : Int) < 0 := by omega
  clear hgr hrow hs14
  go_wp2_with fail
  refine (eqIntS_any _ _ _ _ _ _ _ _ _ _ _ HG15.out.rd HR15.out (by unfold maxLen; omega) (by unfold maxLen; omega)).mono ?_
  rintro e w16 ⟨rfl, m3, rfl⟩
  rw [heq.out]
  go_wp2_with fail
  refine (markIntS_any _ _ _ _ _ _ _ (show Wr (w14.drewN m3) w7.heap.size A8 _ _ from HG15.out) (by omega) (by omega) (by omega)).mono ?_
  rintro e w17 ⟨rfl, hg17, hb17, hs17⟩
  have HG17 := Lib.hid hg17
  have B417 := Lib.hid (show Below w4.heap.size w4 w17 from B415.out.trans ((show Below w7.heap.size w14 w17 from bl_und hb17).mono (by omega)))
  have HW17 := Lib.hid (bl_trans HB4.out B417.out)
  have HR17 := Lib.hid (HR0.out.below B417.out)
  clear hg17 hb17 hs17
  go_wp2_with fail
  refine (heldIntS_any _ _ _ _ _ _ HG17.out.rd (by omega) (by omega) (by omega)).mono ?_
  rintro e w18 ⟨rfl, rfl⟩
  obtain ⟨hcb, _, hzb⟩ := bl_at B417.out (k := w.heap.size) hz4
  have x0 := (hcb 0).trans M0.out
  have x1 := (hcb 1).trans M1.out
  have x2 := (hcb 2).trans M2.out
  have hs417 := B417.out.size
  clear hcb
  go_wp2_with fail
  refine (toMachine_any _ _ _ _).mono ?_
  rintro e w19 ⟨rfl, hb⟩
  have BB := Lib.hid hb
  clear hb x0 x1 x2
  go_wp2_with fail
  refine (HT.out _ (bl_trans HW17.out BB.out)).mono ?_
  rintro e w20 ⟨A20, rfl, h20, hb⟩
  have B21 := Lib.hid (bl_trans BB.out hb)
  have HO21 := Lib.hid h20.rd
  clear hb h20
  go_wp2_with fail
  refine (H2.out _ _ HO21.out hn2).mono ?_
  rintro e w22 ⟨A22, cap22, rfl, hh22, hb⟩
  have B22 := Lib.hid (show Below w17.heap.size w17 w22 from bl_trans B21.out hb)
  have HH22 := Lib.hid hh22
  have HR22 := Lib.hid (HR17.out.below (B22.out.mono (by omega)))
  have HG22 := Lib.hid (HG17.out.below B22.out)
  clear hb hh22
  go_wp2_with fail
  refine (eqIntS_any _ _ _ _ _ _ _ _ _ _ _ HH22.out.rd HR22.out (by unfold maxLen; omega) (by unfold maxLen; omega)).mono ?_
  rintro e w23 ⟨rfl, m4, rfl⟩
  rw [heq.out]
  go_wp2_with fail
  refine (heldIntS_any _ _ _ _ _ _ (show Rd cI 1 (w22.drewN m4) w22.heap.size A8 _ _ from HG22.out.rd) (by omega) (by omega) (by omega)).mono ?_
  rintro e w24 ⟨rfl, rfl⟩
  go_wp2
  go_ret
  exact ⟨rfl, bl_drewN (bl_trans HW17.out B22.out) m4⟩
end Go.Proofs.Ytabmhmbmdegoaaa
