/-
  A strike parsed: the implementation and the law's walk.
-/
import Derived.Test.YtgfobchpkjpiiaaDoorPst2
namespace Go.Proofs.YtgfobchpkjpiiaaDoor
open Go.RowKit
set_option linter.unusedVariables false
attribute [local go_sem ↓] Go.wp_at_zero Go.wp_at_succ

set_option maxRecDepth 8000 in
set_option maxHeartbeats 4000000 in
theorem implPS_any (s : ByteArray) (hs : s.size ≤ 1048576) (w : World) (he : Errs w) (hT : Lib.TabIs Tryd.prog w "internal/strconv.uint64pow10" .u64 Lib.pow10Tab) : Calls Tryd.prog 34 #[.string s] w (RetK (ps5 (spl 47 [] s.data.toList)) w) := by
  have HT := Lib.hid hT
  have HN := Lib.hid (fun W h => numbersIn_any s hs W h)
  have HER := Lib.hid he
  obtain ⟨v, hv⟩ : ∃ v, ps5 (spl 47 [] s.data.toList) = v := ⟨_, rfl⟩
  rw [hv]
  have HV := Lib.hid hv
  clear hv hT he
  go_enter Tryd.func34, Tryd.ntmps34
  go_wp2_with fail
  refine (HN.out _ (HER.out.below (bl_alloc (Below.refl _ _) _))).mono ?_
  rintro e w1 ⟨R, A, c, rfl, hn, hwr, hb⟩
  have ZC1 := Lib.hid ((zc_new w 32).below hb)
  have HB := Lib.hid (show Below w.heap.size w w1 from by repeat (first | (with_reducible exact Below.refl _ _) | (with_reducible assumption) | (with_reducible refine bl_alloc ?_ _) | (with_reducible refine bl_drew ?_) | (with_reducible refine bl_drewN ?_ _) | ((with_reducible refine bl_set ?_ ?hb _); (case hb => first | (simp; done) | omega | (simp; omega))) | (with_reducible refine bl_trans ?_ (by assumption))))
  have hz1 := ZC1.out.2.2
  have HNR := Lib.hid hn
  clear hb HN hn
  by_cases hR : R.length = 5
  · rw [hR] at hwr
    rw [hR]
    obtain ⟨p, q, r, k, l, rfl⟩ := five hR
    obtain ⟨g, rfl, hgb, hgl, hcc, hff⟩ := hwr.2 (by omega)
    have HC0 := Lib.hid (hcc 0 p rfl)
    have HC1 := Lib.hid (hcc 1 q rfl)
    have HC2 := Lib.hid (hcc 2 r rfl)
    have HC3 := Lib.hid (hcc 3 k rfl)
    have HC4 := Lib.hid (hcc 4 l rfl)
    have hbn : g ≠ w.heap.size := by simp at hgb; omega
    have HJ := Lib.hid (joinI_any _ 5 c [p, q, r, k, l] ⟨#[47]⟩ w1 hwr.rd (by omega) (by omega) (numR_i64 HNR.out) (by decide) (tab_below HT.out HB.out))
    obtain ⟨T, hTT⟩ : ∃ T, jnI [p, q, r, k, l] ⟨#[47]⟩ = T := ⟨_, rfl⟩
    rw [hTT] at HJ
    have HTT := Lib.hid hTT
    clear hwr hcc hff hgb hR hTT
    by_cases hts : T = s
    · rcases hst : strikeB p q r k l with _ | _
      · obtain rfl : ((0, 0, 0, 0, 0), false) = v := by rw [← HV.out]; exact (ps_bad HNR.out hst).symm
        have HST := Lib.hid hst
        subst hts
        clear hst
        go_wp2_with fail
        refine HJ.out.mono ?_
        rintro e w2 ⟨rfl, hb2⟩
        have HB2 := Lib.hid (bl_trans HB.out hb2)
        have HF2 := Lib.hid hb2
        have HZ2 := Lib.hid (ZC1.out.below hb2)
        clear hb2
        have hg2 : g < w2.heap.size := by have := HF2.out.size; omega
        have HSO2 := Lib.hid (strikeOf_get g 0 5 c p q r k l w2 hg2 (by omega) ((HF2.out.cell (p := ⟨g, 0, none⟩) hgl).trans HC0.out) ((HF2.out.cell (p := ⟨g, 0 + 1, none⟩) hgl).trans HC1.out) ((HF2.out.cell (p := ⟨g, 0 + 2, none⟩) hgl).trans HC2.out) ((HF2.out.cell (p := ⟨g, 0 + 3, none⟩) hgl).trans HC3.out) ((HF2.out.cell (p := ⟨g, 0 + 4, none⟩) hgl).trans HC4.out))
        go_wp2_with fail
        refine HSO2.out.mono ?_
        rintro e w3 ⟨rfl, hb3⟩
        have HB3 := Lib.hid (bl_trans HB2.out hb3)
        have HF3 := Lib.hid (bl_trans HF2.out hb3)
        have HZ3 := Lib.hid (HZ2.out.below hb3)
        clear hb3
        go_wp2_with fail
        refine (implIsStrike_any _ _ _ _ _ _).mono ?_
        rw [HST.out]
        rintro e w4 ⟨rfl, hb4⟩
        have HB4 := Lib.hid (bl_trans HB3.out hb4)
        have HF4 := Lib.hid (bl_trans HF3.out hb4)
        have HZ4 := Lib.hid (HZ3.out.below hb4)
        clear hb4
        obtain ⟨hzc, hzf, hzz⟩ := HZ4.out
        have z0 := hzc 0 (by omega)
        have z1 := hzc 1 (by omega)
        have z2 := hzc 2 (by omega)
        have z3 := hzc 3 (by omega)
        have z4 := hzc 4 (by omega)
        clear hzc
        go_wp2
        refine bodyPost_ret (v := .tuple #[.agg #[.int .i64 0, .int .i64 0, .int .i64 0, .int .i64 0, .int .i64 0], .bool false]) (by simp [results, Tryd.results34, go_sem, *]) rfl ⟨rfl, ?_⟩
        have := HB4.out
        exact by repeat (first | (with_reducible exact Below.refl _ _) | (with_reducible assumption) | (with_reducible refine bl_alloc ?_ _) | (with_reducible refine bl_drew ?_) | (with_reducible refine bl_drewN ?_ _) | ((with_reducible refine bl_set ?_ ?hb _); (case hb => first | (simp; done) | omega | (simp; omega))) | (with_reducible refine bl_trans ?_ (by assumption)))
      · obtain rfl : ((p, q, r, k, l), true) = v := by rw [← HV.out]; exact (ps_good hst (by rw [HTT.out, hts])).symm
        have HST := Lib.hid hst
        subst hts
        clear hst
        go_wp2_with fail
        refine HJ.out.mono ?_
        rintro e w2 ⟨rfl, hb2⟩
        have HB2 := Lib.hid (bl_trans HB.out hb2)
        have HF2 := Lib.hid hb2
        have HZ2 := Lib.hid (ZC1.out.below hb2)
        clear hb2
        have hg2 : g < w2.heap.size := by have := HF2.out.size; omega
        have HSO2 := Lib.hid (strikeOf_get g 0 5 c p q r k l w2 hg2 (by omega) ((HF2.out.cell (p := ⟨g, 0, none⟩) hgl).trans HC0.out) ((HF2.out.cell (p := ⟨g, 0 + 1, none⟩) hgl).trans HC1.out) ((HF2.out.cell (p := ⟨g, 0 + 2, none⟩) hgl).trans HC2.out) ((HF2.out.cell (p := ⟨g, 0 + 3, none⟩) hgl).trans HC3.out) ((HF2.out.cell (p := ⟨g, 0 + 4, none⟩) hgl).trans HC4.out))
        go_wp2_with fail
        refine HSO2.out.mono ?_
        rintro e w3 ⟨rfl, hb3⟩
        have HB3 := Lib.hid (bl_trans HB2.out hb3)
        have HF3 := Lib.hid (bl_trans HF2.out hb3)
        have HZ3 := Lib.hid (HZ2.out.below hb3)
        clear hb3
        go_wp2_with fail
        refine (implIsStrike_any _ _ _ _ _ _).mono ?_
        rw [HST.out]
        rintro e w4 ⟨rfl, hb4⟩
        have HB4 := Lib.hid (bl_trans HB3.out hb4)
        have HF4 := Lib.hid (bl_trans HF3.out hb4)
        have HZ4 := Lib.hid (HZ3.out.below hb4)
        clear hb4
        have hg4 : g < w4.heap.size := by have := HF4.out.size; omega
        have HSO4 := Lib.hid (strikeOf_get g 0 5 c p q r k l w4 hg4 (by omega) ((HF4.out.cell (p := ⟨g, 0, none⟩) hgl).trans HC0.out) ((HF4.out.cell (p := ⟨g, 0 + 1, none⟩) hgl).trans HC1.out) ((HF4.out.cell (p := ⟨g, 0 + 2, none⟩) hgl).trans HC2.out) ((HF4.out.cell (p := ⟨g, 0 + 3, none⟩) hgl).trans HC3.out) ((HF4.out.cell (p := ⟨g, 0 + 4, none⟩) hgl).trans HC4.out))
        go_wp2_with fail
        refine HSO4.out.mono ?_
        rintro e w5 ⟨rfl, hb5⟩
        have HB5 := Lib.hid (bl_trans HB4.out hb5)
        have HZ5 := Lib.hid (HZ4.out.below hb5)
        clear hb5
        obtain ⟨hzc, hzf, hzz⟩ := HZ5.out
        have z0 := hzc 0 (by omega)
        have z1 := hzc 1 (by omega)
        have z2 := hzc 2 (by omega)
        have z3 := hzc 3 (by omega)
        have z4 := hzc 4 (by omega)
        clear hzc
        go_wp2
        refine bodyPost_ret (v := .tuple #[.agg #[.int .i64 p, .int .i64 q, .int .i64 r, .int .i64 k, .int .i64 l], .bool true]) (by simp [results, Tryd.results34, go_sem, *]) rfl ⟨rfl, ?_⟩
        have := HB5.out
        exact by repeat (first | (with_reducible exact Below.refl _ _) | (with_reducible assumption) | (with_reducible refine bl_alloc ?_ _) | (with_reducible refine bl_drew ?_) | (with_reducible refine bl_drewN ?_ _) | ((with_reducible refine bl_set ?_ ?hb _); (case hb => first | (simp; done) | omega | (simp; omega))) | (with_reducible refine bl_trans ?_ (by assumption)))
    · obtain rfl : ((0, 0, 0, 0, 0), false) = v := by rw [← HV.out]; exact (ps_other HNR.out (by rw [HTT.out]; exact hts)).symm
      have hbe : (T.toList == s.toList) = false := by rw [beq_eq_false_iff_ne]; intro h; rw [ByteArray.toList_eq, ByteArray.toList_eq] at h; exact hts (bytes_ext2 h)
      go_wp2_with fail
      refine HJ.out.mono ?_
      rintro e w2 ⟨rfl, hb2⟩
      have HB2 := Lib.hid (bl_trans HB.out hb2)
      have HF2 := Lib.hid hb2
      have HZ2 := Lib.hid (ZC1.out.below hb2)
      clear hb2
      obtain ⟨hzc, hzf, hzz⟩ := HZ2.out
      have z0 := hzc 0 (by omega)
      have z1 := hzc 1 (by omega)
      have z2 := hzc 2 (by omega)
      have z3 := hzc 3 (by omega)
      have z4 := hzc 4 (by omega)
      clear hzc
      go_wp2
      refine bodyPost_ret (v := .tuple #[.agg #[.int .i64 0, .int .i64 0, .int .i64 0, .int .i64 0, .int .i64 0], .bool false]) (by simp [results, Tryd.results34, go_sem, *]) rfl ⟨rfl, ?_⟩
      have := HB2.out
      exact by repeat (first | (with_reducible exact Below.refl _ _) | (with_reducible assumption) | (with_reducible refine bl_alloc ?_ _) | (with_reducible refine bl_drew ?_) | (with_reducible refine bl_drewN ?_ _) | ((with_reducible refine bl_set ?_ ?hb _); (case hb => first | (simp; done) | omega | (simp; omega))) | (with_reducible refine bl_trans ?_ (by assumption)))
  · have hR5 : ¬ (R.length : Int) = 5 := by omega
    obtain rfl : ((0, 0, 0, 0, 0), false) = v := by rw [← HV.out]; exact (ps_len HNR.out hR).symm
    clear hwr
    obtain ⟨hzc, hzf, hzz⟩ := ZC1.out
    have z0 := hzc 0 (by omega)
    have z1 := hzc 1 (by omega)
    have z2 := hzc 2 (by omega)
    have z3 := hzc 3 (by omega)
    have z4 := hzc 4 (by omega)
    clear hzc
    go_wp2
    refine bodyPost_ret (v := .tuple #[.agg #[.int .i64 0, .int .i64 0, .int .i64 0, .int .i64 0, .int .i64 0], .bool false]) (by simp [results, Tryd.results34, go_sem, *]) rfl ⟨rfl, ?_⟩
    have := HB.out
    exact by repeat (first | (with_reducible exact Below.refl _ _) | (with_reducible assumption) | (with_reducible refine bl_alloc ?_ _) | (with_reducible refine bl_drew ?_) | (with_reducible refine bl_drewN ?_ _) | ((with_reducible refine bl_set ?_ ?hb _); (case hb => first | (simp; done) | omega | (simp; omega))) | (with_reducible refine bl_trans ?_ (by assumption)))
theorem eqStrike_rf (l t a d f : Int) (w : World) : Calls Tryd.prog 35 #[.agg #[.int .i64 l, .int .i64 t, .int .i64 a, .int .i64 d, .int .i64 f], .agg #[.int .i64 l, .int .i64 t, .int .i64 a, .int .i64 d, .int .i64 f]] w fun e w' => e = .returned (.bool (true)) ∧ Below w.heap.size w w' := by
  go_enter Tryd.func35, Tryd.ntmps35
  go_wp2
  go_ret
  exact ⟨rfl, by repeat (first | (with_reducible exact Below.refl _ _) | (with_reducible assumption) | (with_reducible refine bl_alloc ?_ _) | (with_reducible refine bl_drew ?_) | (with_reducible refine bl_drewN ?_ _) | ((with_reducible refine bl_set ?_ ?hb _); (case hb => first | (simp; done) | omega | (simp; omega))) | (with_reducible refine bl_trans ?_ (by assumption)))⟩
set_option maxHeartbeats 4000000 in
theorem lawParseStrike (s : ByteArray) (w : World) (_ : s.size ≤ maxLen) (hT : Lib.TabIs Tryd.prog w "internal/strconv.uint64pow10" .u64 Lib.pow10Tab) (he1 : ∃ tp q, w.var? Tryd.prog "strconv.ErrRange" = some #[.iface tp q]) (he2 : ∃ tp q, w.var? Tryd.prog "strconv.ErrSyntax" = some #[.iface tp q]) : Calls Tryd.prog 9 #[.string s] w fun e w' => e = .returned (.bool (true)) ∧ Below w.heap.size w w' := by
  have he : Errs w := ⟨he1, he2⟩
  by_cases hs : s.size ≤ 1048576
  · have HT := Lib.hid hT
    have HE := Lib.hid he
    have H1 := Lib.hid (fun W => specPS_any s hs W)
    have H2 := Lib.hid (fun W h h' => implPS_any s hs W h h')
    have hsz : ¬ (1048576 : Int) < (s.size : Int) := by omega
    obtain ⟨v, hv⟩ : ∃ v, ps5 (spl 47 [] s.data.toList) = v := ⟨_, rfl⟩
    rw [hv] at H1 H2
    obtain ⟨⟨l, t, a, d, f⟩, b⟩ := v
    clear hT he he1 he2 hv hs
    go_enter Tryd.func9, Tryd.ntmps9
    go_wp2_with fail
    refine (H1.out _).mono ?_
    rintro e w1 ⟨rfl, hb⟩
    have HB1 := Lib.hid (show Below w.heap.size w w1 from by repeat (first | (with_reducible exact Below.refl _ _) | (with_reducible assumption) | (with_reducible refine bl_alloc ?_ _) | (with_reducible refine bl_drew ?_) | (with_reducible refine bl_drewN ?_ _) | ((with_reducible refine bl_set ?_ ?hb _); (case hb => first | (simp; done) | omega | (simp; omega))) | (with_reducible refine bl_trans ?_ (by assumption))))
    clear hb
    go_wp2_with fail
    refine (H2.out _ (HE.out.below (bl_alloc HB1.out _)) (tab_below HT.out (bl_alloc HB1.out _))).mono ?_
    rintro e w2 ⟨rfl, hb⟩
    obtain ⟨hc1, hf1, hz1⟩ := bl_at hb (k := w1.heap.size) (by first | assumption | (simp; done) | (simp; omega))
    have HB2 := Lib.hid (bl_trans (bl_alloc HB1.out _) hb)
    have hz2 : w1.heap.size < w2.heap.size := hz1
    clear hb
    go_wp2_with fail
    refine (eqStrike_rf _ _ _ _ _ _).mono ?_
    rintro e w3 ⟨rfl, hb⟩
    have HB3 := Lib.hid (show Below w.heap.size w w3 from bl_trans (bl_alloc HB2.out _) hb)
    clear hb
    rcases b with _ | _
    · go_wp2
      go_ret
      exact ⟨rfl, HB3.out⟩
    · go_wp2
      go_ret
      exact ⟨rfl, HB3.out⟩
  · have hsz : (1048576 : Int) < (s.size : Int) := by omega
    go_enter Tryd.func9, Tryd.ntmps9
    go_wp2
    go_ret
    exact ⟨rfl, Below.refl _ _⟩
end Go.Proofs.YtgfobchpkjpiiaaDoor
