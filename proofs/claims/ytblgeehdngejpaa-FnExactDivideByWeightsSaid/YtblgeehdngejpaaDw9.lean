/-
  DivideByWeights: the reference model's contract whole; the law's walk.
-/
import Derived.Test.YtblgeehdngejpaaDw8
namespace Go.Proofs.Ytblgeehdngejpaa
open Go.RowKit
set_option linter.unusedVariables false

theorem specDW_any (A : Option Addr) (n cp : Nat) (xs : List Int) (T : Int) (w : World) (hr : Rd cI 1 w w.heap.size A n xs) (hn : n ≤ 1048576) :
    Calls Try.prog 4 #[.slice A n cp, .int .i64 T] w (RetS (dvL xs T) (dvB xs T) w) := by
  rcases dv_parts2 xs T with ⟨h1, hB⟩ | ⟨h1, h2, hB⟩ | ⟨h1, h2, h3, hB⟩ | ⟨h1, h2, h3, hB⟩
  · exact specDW_no A n cp xs T w hr hn hB (.inr (.inl h1))
  · exact specDW_no A n cp xs T w hr hn hB (.inr (.inr (.inl h2)))
  · exact specDW_no A n cp xs T w hr hn hB (.inr (.inr (.inr h3)))
  · exact specDW_run A n cp xs T w hr hn h1 h2 h3 hB
set_option maxHeartbeats 4000000 in
theorem lawDivideByWeights (A : Option Addr) (n cp : Nat) (xs : List Int) (T : Int) (w : World) (hr : Rd cI 1 w w.heap.size A n xs) (hn : n ≤ maxLen) (_ : ∀ x ∈ xs, I64 x) (_ : I64 T) :
    Calls Try.prog 3 #[.slice A n cp, .int .i64 T] w fun e w' => e = .returned (.bool (true)) ∧ Below w.heap.size w w' := by
  have hLen := dvL_len (xs := xs) (T := T)
  have H1 := Lib.hid (fun A1 W (hr : Rd cI 1 W W.heap.size A1 n xs) (hn : n ≤ 1048576) => specDW_any A1 n n xs T W hr hn)
  have H2 := Lib.hid (fun A1 W (hr : Rd cI 1 W W.heap.size A1 n xs) (hn : n ≤ 1048576) => implDW_any A1 n n xs T W hr hn)
  obtain ⟨L, hLL⟩ : ∃ L, L = dvL xs T := ⟨_, rfl⟩
  obtain ⟨v, hv⟩ : ∃ v, v = dvB xs T := ⟨_, rfl⟩
  rw [← hLL, ← hv] at H1 H2
  rw [← hLL] at hLen
  clear hLL hv
  have heq := Lib.hid (eqL_same L)
  have heqx := Lib.hid (eqL_same xs)
  by_cases hsz : 1048576 < n
  · go_enter Try.func3, Try.ntmps3
    go_wp2
    go_ret
    exact ⟨rfl, by repeat (first | (with_reducible exact Below.refl _ _) | (with_reducible assumption) | (with_reducible refine bl_alloc ?_ _) | (with_reducible refine bl_drew ?_) | (with_reducible refine bl_drewN ?_ _) | ((with_reducible refine bl_set ?_ ?hb _); (case hb => first | (simp; done) | omega | (simp; omega))) | (with_reducible refine bl_trans ?_ (by assumption)))⟩
  have hn2 : n ≤ 1048576 := by omega
  have HT := Lib.hid (fun (W : World) (h : Below w.heap.size w W) => toIntS_cap A n cp _ xs W (hr.below h) h.size hn2)
  clear hn
  go_enter Try.func3, Try.ntmps3
  go_wp2_with fail
  refine (HT.out _ (Below.refl _ _)).mono ?_
  rintro e w3 ⟨A3, rfl, h3, hb⟩
  have HB3 := Lib.hid hb
  clear hb
  go_wp2_with fail
  refine (H1.out A3 w3 h3.rd hn2).mono ?_
  rintro e w4 ⟨A4, c4, rfl, h4, hb⟩
  have HB4 := Lib.hid (bl_trans HB3.out hb)
  have H4 := Lib.hid h4
  clear hb h3 h4
  go_wp2_with fail
  refine (HT.out _ HB4.out).mono ?_
  rintro e w5 ⟨A5, rfl, h5, hb⟩
  have HB5 := Lib.hid (bl_trans HB4.out hb)
  have B45 := Lib.hid hb
  have hs45 := hb.size
  have H5 := Lib.hid h5
  clear hb h5
  go_wp2_with fail
  refine (H2.out A5 w5 H5.out.rd hn2).mono ?_
  rintro e w7 ⟨A8, c8, rfl, h8, hb⟩
  have HG8 := Lib.hid h8
  have B58 := Lib.hid hb
  have B48 := Lib.hid (bl_trans B45.out hb)
  have HB8 := Lib.hid (bl_trans HB5.out hb)
  have HR0 := Lib.hid H4.out.rd
  have HR8 := Lib.hid (HR0.out.below B48.out)
  have hs57 := hb.size
  clear hb h8
  go_wp2_with fail
  refine (eqIntS_any _ _ _ _ _ _ _ _ _ _ _ HG8.out.rd HR8.out (by unfold maxLen; omega) (by unfold maxLen; omega)).mono ?_
  rintro e w9 ⟨rfl, m1, rfl⟩
  rw [heq.out]
  go_wp2_with fail
  refine (HT.out _ (bl_drewN HB8.out m1)).mono ?_
  rintro e w10 ⟨A10, rfl, h10, hb⟩
  have B8 := Lib.hid (show Below w7.heap.size w7 w10 from bl_und hb)
  clear hb
  go_wp2_with fail
  refine (eqIntS_any _ _ _ _ _ _ _ _ _ _ _ (H5.out.below (bl_trans B58.out B8.out)).rd h10.rd (by unfold maxLen; omega) (by unfold maxLen; omega)).mono ?_
  rintro e w11 ⟨rfl, m2, rfl⟩
  rw [heqx.out]
  have B811 := Lib.hid (show Below w7.heap.size w7 (w10.drewN m2) from bl_drewN B8.out m2)
  clear h10
  go_wp2_with fail
  refine (markIntS_row _ _ _ _ xs 1 _ (show Wr (w10.drewN m2) _ A5 n xs from H5.out.below (bl_trans B58.out B811.out)) (by omega) (by omega) (by omega)).mono ?_
  rintro e w14 ⟨rfl, ⟨row, hgr, hrow⟩, hs14⟩
  have hs811 : w7.heap.size ≤ w10.heap.size := B8.out.size
  have hs1114 : w10.heap.size = w14.heap.size := hs14
  have HROW := Lib.hid (show ∀ k, row = some k → w4.heap.size ≤ k ∧ k < w5.heap.size from fun k hk => wr_rowOf H5.out (hrow k hk))
  have HG15 := Lib.hid (show Wr w14 w5.heap.size A8 _ L from wr_row (show Wr (w10.drewN m2) w5.heap.size A8 _ L from HG8.out.below B811.out) hgr (fun k hk => (HROW.out k hk).2))
  have B415 := Lib.hid (show Below w4.heap.size w4 w14 from (bl_trans B48.out B811.out).trans (gr_belowR hgr (fun k hk => (HROW.out k hk).1) (by show w4.heap.size ≤ w10.heap.size; omega)))
  have HR15 := Lib.hid (HR0.out.below B415.out)
  have hs415 := B415.out.size
  have hkn : ¬ (1 : Int) + (n : Int) < 0 := by omega
  clear hgr hrow hs14
  go_wp2_with fail
  refine (eqIntS_any _ _ _ _ _ _ _ _ _ _ _ HG15.out.rd HR15.out (by unfold maxLen; omega) (by unfold maxLen; omega)).mono ?_
  rintro e w16 ⟨rfl, m3, rfl⟩
  rw [heq.out]
  go_wp2_with fail
  refine (markIntS_any _ _ _ _ _ _ _ (show Wr (w14.drewN m3) w5.heap.size A8 _ _ from HG15.out) (by omega) (by omega) (by omega)).mono ?_
  rintro e w17 ⟨rfl, hg17, hb17, hs17⟩
  have HG17 := Lib.hid hg17
  have B417 := Lib.hid (show Below w4.heap.size w4 w17 from B415.out.trans ((show Below w5.heap.size w14 w17 from bl_und hb17).mono (by omega)))
  have HW17 := Lib.hid (bl_trans HB4.out B417.out)
  have HR17 := Lib.hid (HR0.out.below B417.out)
  clear hg17 hb17 hs17
  go_wp2_with fail
  refine (heldIntS_any _ _ _ _ _ _ HG17.out.rd (by omega) (by omega) (by omega)).mono ?_
  rintro e w18 ⟨rfl, rfl⟩
  go_wp2_with fail
  refine (HT.out _ HW17.out).mono ?_
  rintro e w20 ⟨A20, rfl, h20, hb⟩
  have B20 := Lib.hid hb
  clear hb
  go_wp2_with fail
  refine (H2.out A20 w20 h20.rd hn2).mono ?_
  rintro e w22 ⟨A22, c22, rfl, h22, hb⟩
  have B22 := Lib.hid (bl_trans B20.out hb)
  have HH22 := Lib.hid h22
  have HG22 := Lib.hid (HG17.out.below B22.out)
  have HR22 := Lib.hid (HR0.out.below (bl_trans B417.out B22.out))
  clear hb h20 h22
  go_wp2_with fail
  refine (eqIntS_any _ _ _ _ _ _ _ _ _ _ _ HH22.out.rd HR22.out (by unfold maxLen; omega) (by unfold maxLen; omega)).mono ?_
  rintro e w23 ⟨rfl, m4, rfl⟩
  rw [heq.out]
  go_wp2_with fail
  refine (heldIntS_any _ _ _ _ _ _ (show Rd cI 1 (w22.drewN m4) w22.heap.size A8 _ _ from HG22.out.rd) (by omega) (by omega) (by omega)).mono ?_
  rintro e w24 ⟨rfl, rfl⟩
  go_wp2
  go_ret
  exact ⟨rfl, bl_drewN (bl_trans HW17.out B22.out) m4⟩
end Go.Proofs.Ytblgeehdngejpaa
