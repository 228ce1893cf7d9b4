/-
  Strikes off the standard: the law's walk.
-/
import Derived.Test.YtbklljbjggoiaaaMa14
namespace Go.Proofs.Ytbklljbjggoiaaa
open Go.RowKit
set_option linter.unusedVariables false
attribute [local go_sem ↓] Go.wp_at_zero Go.wp_at_succ

set_option maxHeartbeats 4000000 in
theorem lawOffY (A : Option Addr) (n c : Nat) (xs : List Stk) (y : Stk) (t : Int) (w : World) (hr : Rd cStk 5 w w.heap.size A n xs) (hn : n ≤ maxLen) : Calls Try.prog 13 #[.slice A n c, .agg #[.int .i64 y.a, .int .i64 y.b, .int .i64 y.c, .int .i64 y.d, .int .i64 y.f], .int .i64 t] w fun e w' => e = .returned (.bool (true)) ∧ Below w.heap.size w w' := by
  have hn' := hn
  unfold maxLen at hn'
  have HN := Lib.hid hn
  clear hn
  by_cases hsz : (1048576 : Int) - n < 0
  · have E := Lib.hid (szV_neg hsz)
    go_enter Try.func13, Try.ntmps13
    go_wp2_with (go_at_call 35; refine (szStk_any _ _ _ _ _ HN.out (by omega) (by omega)).mono ?_; rw [E.out]; rintro e w' ⟨rfl, rfl⟩)
    go_ret
    exact ⟨rfl, by repeat (first | (with_reducible exact Below.refl _ _) | (with_reducible assumption) | (with_reducible refine bl_alloc ?_ _) | (with_reducible refine bl_drew ?_) | (with_reducible refine bl_drewN ?_ _) | ((with_reducible refine bl_set ?_ ?hb _); (case hb => first | (simp; done) | omega | (simp; omega))) | (with_reducible refine bl_trans ?_ (by assumption)))⟩
  · have E := Lib.hid (szV_pos hsz)
    have hn2 : n ≤ 1048576 := by omega
    have HT := Lib.hid (fun (W : World) (h : Below w.heap.size w W) => toStkS_any A n c _ xs W (hr.below h) h.size hn2)
    have hL : (offL xs y t).length ≤ 1048576 := by have := offL_len xs y t; have := hr.1; omega
    have H1 := Lib.hid (fun A1 n1 c1 B W h1 h2 h3 => specOff_any A1 n1 c1 B xs y t W h1 h2 h3)
    have H2 := Lib.hid (fun A1 n1 c1 B W h1 h2 h3 => implOff_any A1 n1 c1 B xs y t W h1 h2 h3)
    obtain ⟨L, hLL⟩ : ∃ L, L = offL xs y t := ⟨_, rfl⟩
    obtain ⟨v, hv⟩ : ∃ v, v = offOk xs y t := ⟨_, rfl⟩
    rw [← hLL, ← hv] at H1 H2
    rw [← hLL] at hL
    clear hLL hv
    have heq := Lib.hid (eqL_same L)
    go_enter Try.func13, Try.ntmps13
    go_wp2_with (go_at_call 35; refine (szStk_any _ _ _ _ _ HN.out (by omega) (by omega)).mono ?_; rw [E.out]; rintro e w' ⟨rfl, rfl⟩)
    go_region_held3 (fun w' => w'.cell? ⟨w.heap.size, 0, none⟩ = some (.int .i64 y.a) ∧ w'.cell? ⟨w.heap.size, 1, none⟩ = some (.int .i64 y.b) ∧ w'.cell? ⟨w.heap.size, 2, none⟩ = some (.int .i64 y.c) ∧ w'.cell? ⟨w.heap.size, 3, none⟩ = some (.int .i64 y.d) ∧ w'.cell? ⟨w.heap.size, 4, none⟩ = some (.int .i64 y.f)) (go_keep) (first | (go_at_call 37; refine (HT.out _ ?_).mono ?_; exact (by repeat (first | (with_reducible exact Below.refl _ _) | (with_reducible assumption) | (with_reducible refine bl_alloc ?_ _) | (with_reducible refine bl_drew ?_) | (with_reducible refine bl_drewN ?_ _) | ((with_reducible refine bl_set ?_ ?hb _); (case hb => first | (simp; done) | omega | (simp; omega))) | (with_reducible refine bl_trans ?_ (by assumption)))); rintro e w1 ⟨A1, c1, rfl, h1, hb⟩; obtain ⟨hc0, hf0, hz0⟩ := bl_at hb (k := w.heap.size) (by first | assumption | (simp; done) | (simp; omega))) | (go_at_call 15; refine (toStrike_any _ _ _ _ _ _).mono ?_; rintro e w2 ⟨rfl, hb⟩; obtain ⟨hc0, hf0, hz0⟩ := bl_at hb (k := w.heap.size) (by first | assumption | (simp; done) | (simp; omega))) | (go_at_call 42; refine (H1.out _ _ _ _ _ (h1.below hb).rd (Nat.le_refl _) hn2).mono ?_; rintro e w3 ⟨A0, cap0, rfl, hw0, hb⟩; obtain ⟨hc0, hf0, hz0⟩ := bl_at hb (k := w.heap.size) (by first | assumption | (simp; done) | (simp; omega))))
    have HBX := Lib.hid (And.intro hc0 (And.intro hf0 hz0))
    have HB3 := Lib.hid (show Below w.heap.size w w3 from by repeat (first | (with_reducible exact Below.refl _ _) | (with_reducible assumption) | (with_reducible refine bl_alloc ?_ _) | (with_reducible refine bl_drew ?_) | (with_reducible refine bl_drewN ?_ _) | ((with_reducible refine bl_set ?_ ?hb _); (case hb => first | (simp; done) | omega | (simp; omega))) | (with_reducible refine bl_trans ?_ (by assumption))))
    have hs3 : w.heap.size < w3.heap.size := by have := hz0; omega
    have HR0 := Lib.hid hw0.rd
    clear h1 hb hw0
    go_wp2_with fail
    refine (HT.out _ HB3.out).mono ?_
    rintro e w4 ⟨A4, c4, rfl, h4, hb⟩
    obtain ⟨hc0, hf0, hz0⟩ := bl_at hb (k := w.heap.size) (by first | assumption | (simp; done) | (simp; omega))
    have HB4 := Lib.hid hb
    have HX4 := Lib.hid h4
    have hs4 := hb.size
    clear hb h4
    go_wp2_with fail
    refine (toStrike_any _ _ _ _ _ _).mono ?_
    rintro e w5 ⟨rfl, hb⟩
    obtain ⟨hc0, hf0, hz0⟩ := bl_at hb (k := w.heap.size) (by first | assumption | (simp; done) | (simp; omega))
    have HB5 := Lib.hid hb
    have hs5 := hb.size
    clear hb
    go_wp2_with fail
    refine (H2.out _ _ _ _ _ (HX4.out.below HB5.out).rd (Nat.le_refl _) hn2).mono ?_
    rintro e w6 ⟨A6, cap6, rfl, hg6, hb⟩
    obtain ⟨hc0, hf0, hz0⟩ := bl_at hb (k := w.heap.size) (by first | assumption | (simp; done) | (simp; omega))
    have HB6 := Lib.hid hb
    have hs6 := hb.size
    have HG6 := Lib.hid hg6
    have HX6 := Lib.hid ((HX4.out.below HB5.out).below hb)
    have HB36 := Lib.hid (show Below w3.heap.size w3 w6 from (HB4.out.trans (HB5.out.mono (by omega))).trans (hb.mono (by omega)))
    clear hb hg6
    have HR6 := Lib.hid (HR0.out.below HB36.out)
    go_wp2_with fail
    refine (eqIntS_any _ _ _ _ _ _ _ _ _ _ _ HG6.out.rd HR6.out (by unfold maxLen; omega) (by unfold maxLen; omega)).mono ?_
    rintro e w7 ⟨rfl, m, rfl⟩
    rw [heq.out]
    go_wp2_with fail
    refine (HT.out _ (bl_drewN (HB3.out.trans (HB36.out.mono (by omega))) m)).mono ?_
    rintro e w8 ⟨A8, c8, rfl, h8, hb8⟩
    have HB8 := Lib.hid (show Below w6.heap.size w6 w8 from bl_und hb8)
    have hs8 : w6.heap.size ≤ w8.heap.size := hb8.size
    clear hb8
    go_wp2_with fail
    refine (eqStkS_same _ _ _ _ _ _ _ xs _ (HX6.out.below HB8.out).rd h8.rd (Nat.le_refl _) (Nat.le_refl _) HN.out).mono ?_
    rintro e w9 ⟨rfl, hb9⟩
    have HB69 := Lib.hid (show Below w6.heap.size w6 w9 from HB8.out.trans (hb9.mono hs8))
    have hs9 : w6.heap.size ≤ w9.heap.size := HB69.out.size
    clear hb9 h8
    go_wp2_with fail
    refine (markStkS_row _ _ _ _ xs 1 _ (HX6.out.below HB69.out) hn2 (by omega) (by omega)).mono ?_
    rintro e w10 ⟨rfl, ⟨row, hgr, hrow⟩, hs10⟩
    have HROW := Lib.hid (show ∀ k, row = some k → w3.heap.size ≤ k ∧ k < w4.heap.size from fun k hk => wrT_rowOf HX4.out (hrow k hk))
    have HB910 := Lib.hid (show Below w3.heap.size w9 w10 from gr_belowR hgr (fun k hk => (HROW.out k hk).1) (by omega))
    have HB310 := Lib.hid (show Below w3.heap.size w3 w10 from (HB36.out.trans (HB69.out.mono (by omega))).trans HB910.out)
    have HR10 := Lib.hid (HR0.out.below HB310.out)
    have HG10 := Lib.hid (wr_row (HG6.out.below HB69.out) hgr (fun k hk => by have := (HROW.out k hk).2; omega))
    have HB10 := Lib.hid (show Below w.heap.size w w10 from HB3.out.trans (HB310.out.mono (by omega)))
    have hneg : ¬ (1 : Int) + 5 * (n : Int) < 0 := by omega
    clear hgr hrow hs10
    go_wp2_with fail
    refine (eqIntS_any _ _ _ _ _ _ _ _ _ _ _ HG10.out.rd HR10.out (by unfold maxLen; omega) (by unfold maxLen; omega)).mono ?_
    rintro e w11 ⟨rfl, m', rfl⟩
    rw [heq.out]
    go_wp2_with fail
    refine (markIntS_any _ _ _ _ _ _ _ (show Wr (w10.drewN m') w5.heap.size A6 _ _ from HG10.out) (by omega) (by omega) (by omega)).mono ?_
    rintro e w12 ⟨rfl, hg12, hb12, hs12⟩
    have HB12 := Lib.hid (show Below w5.heap.size w10 w12 from bl_und hb12)
    have HG12 := Lib.hid hg12
    have hs12' : w10.heap.size = w12.heap.size := hs12
    clear hg12 hb12 hs12
    go_wp2_with fail
    refine (heldIntS_any _ _ _ _ _ _ HG12.out.rd (by omega) (by omega) (by omega)).mono ?_
    rintro e w13 ⟨rfl, rfl⟩
    have HB312 := Lib.hid (show Below w3.heap.size w3 w12 from HB310.out.trans (HB12.out.mono (by omega)))
    have HR12 := Lib.hid (HR0.out.below HB312.out)
    have HW12 := Lib.hid (show Below w.heap.size w w12 from HB3.out.trans (HB312.out.mono (by omega)))
    obtain ⟨hcb, hfb, hzb⟩ := HBX.out
    obtain ⟨hd0, he0, hq0⟩ := bl_to HB312.out (k := w.heap.size) hs3 (Nat.le_refl _)
    have x0 := (hd0 0).trans (hcb 0)
    have x1 := (hd0 1).trans (hcb 1)
    have x2 := (hd0 2).trans (hcb 2)
    have x3 := (hd0 3).trans (hcb 3)
    have x4 := (hd0 4).trans (hcb 4)
    clear hcb hfb hd0 he0 hc0 hf0 hz0
    have q0 : w.heap.size < w12.heap.size := by omega
    go_wp2_with fail
    go_region_held3 (fun w' => w'.cell? ⟨w.heap.size, 0, none⟩ = some (.int .i64 y.a) ∧ w'.cell? ⟨w.heap.size, 1, none⟩ = some (.int .i64 y.b) ∧ w'.cell? ⟨w.heap.size, 2, none⟩ = some (.int .i64 y.c) ∧ w'.cell? ⟨w.heap.size, 3, none⟩ = some (.int .i64 y.d) ∧ w'.cell? ⟨w.heap.size, 4, none⟩ = some (.int .i64 y.f)) (go_keep) (first | (go_at_call 37; refine (HT.out _ ?_).mono ?_; exact (bl_trans HW12.out (by repeat (first | (with_reducible exact Below.refl _ _) | (with_reducible assumption) | (with_reducible refine bl_alloc ?_ _) | (with_reducible refine bl_drew ?_) | (with_reducible refine bl_drewN ?_ _) | ((with_reducible refine bl_set ?_ ?hb _); (case hb => first | (simp; done) | omega | (simp; omega))) | (with_reducible refine bl_trans ?_ (by assumption))))); rintro e w14 ⟨A1, c1, rfl, h1, hb⟩; obtain ⟨hc0, hf0, hz0⟩ := bl_at hb (k := w.heap.size) (by first | assumption | (simp; done) | (simp; omega))) | (go_at_call 15; refine (toStrike_any _ _ _ _ _ _).mono ?_; rintro e w15 ⟨rfl, hb⟩; obtain ⟨hc0, hf0, hz0⟩ := bl_at hb (k := w.heap.size) (by first | assumption | (simp; done) | (simp; omega))) | (go_at_call 43; refine (H2.out _ _ _ _ _ (h1.below hb).rd (Nat.le_refl _) hn2).mono ?_; rintro e w16 ⟨A16, cap16, rfl, hh0, hb⟩; obtain ⟨hc0, hf0, hz0⟩ := bl_at hb (k := w.heap.size) (by first | assumption | (simp; done) | (simp; omega))))
    have hB16 : Below w12.heap.size w12 w16 := by repeat (first | (with_reducible exact Below.refl _ _) | (with_reducible assumption) | (with_reducible refine bl_alloc ?_ _) | (with_reducible refine bl_drew ?_) | (with_reducible refine bl_drewN ?_ _) | ((with_reducible refine bl_set ?_ ?hb _); (case hb => first | (simp; done) | omega | (simp; omega))) | (with_reducible refine bl_trans ?_ (by assumption)))
    have HR16 := Lib.hid (HR12.out.below (hB16.mono (by have := HB312.out.size; omega)))
    have HG16 := Lib.hid (HG12.out.below hB16)
    have HB16 := Lib.hid hB16
    clear hB16
    go_wp2_with fail
    refine (eqIntS_any _ _ _ _ _ _ _ _ _ _ _ hh0.rd HR16.out (by unfold maxLen; omega) (by unfold maxLen; omega)).mono ?_
    rintro e w17 ⟨rfl, m2, rfl⟩
    rw [heq.out]
    go_wp2_with fail
    refine (heldIntS_any _ _ _ _ _ _ (show Rd cI 1 (w16.drewN m2) w16.heap.size A6 _ _ from HG16.out.rd) (by omega) (by omega) (by omega)).mono ?_
    rintro e w18 ⟨rfl, rfl⟩
    go_wp2
    go_ret
    exact ⟨rfl, bl_drewN (bl_trans HW12.out HB16.out) m2⟩
theorem lawOffStandard (A : Option Addr) (n c : Nat) (xs : List Stk) (a b c' d f t : Int) (w : World) (hr : Rd cStk 5 w w.heap.size A n xs) (hn : n ≤ maxLen) (_ : ∀ x ∈ xs, okStk x) (_ : I64 a) (_ : I64 b) (_ : I64 c') (_ : I64 d) (_ : I64 f) (_ : I64 t) : Calls Try.prog 13 #[.slice A n c, .agg #[.int .i64 a, .int .i64 b, .int .i64 c', .int .i64 d, .int .i64 f], .int .i64 t] w fun e w' => e = .returned (.bool (true)) ∧ Below w.heap.size w w' :=
  lawOffY A n c xs ⟨a, b, c', d, f⟩ t w hr hn
end Go.Proofs.Ytbklljbjggoiaaa
