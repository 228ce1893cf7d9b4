/-
  A strike parsed: the specification.
-/
import Derived.Test.YtgfobchpkjpiiaaDoorPst1
namespace Go.Proofs.YtgfobchpkjpiiaaDoor
open Go.RowKit
set_option linter.unusedVariables false
attribute [local go_sem ↓] Go.wp_at_zero Go.wp_at_succ

def rdL (W : List ByteArray) : List Int := W.map (fun x => rdV 6 x.data.toList)
theorem rdL_at {W : List ByteArray} {j : Nat} {x : ByteArray} (h : W[j]? = some x) : (rdL W)[j]? = some (rdV 6 x.data.toList) := by unfold rdL; rw [List.getElem?_map, h]; rfl
theorem rdL_snoc {W : List ByteArray} {j : Nat} {x : ByteArray} (h : W[j]? = some x) : ((rdL W).take (j + 1)).map (Value.int .i64) = ((rdL W).take j).map (Value.int .i64) ++ [.int .i64 (rdV 6 x.data.toList)] := by
  rw [take_snoc (rdL_at h), List.map_append]; rfl
set_option maxRecDepth 8000 in
set_option maxHeartbeats 4000000 in
theorem specPS_any (s : ByteArray) (hs : s.size ≤ 1048576) (w : World) : Calls Tryd.prog 33 #[.string s] w (RetK (ps5 (spl 47 [] s.data.toList)) w) := by
  have HSP := Lib.hid (fun W => split_any s hs 47 47 rfl W)
  obtain ⟨i0, hi0, hi1, hi2, hi3⟩ := info_parts infoI
  obtain ⟨v, hv⟩ : ∃ v, ps5 (spl 47 [] s.data.toList) = v := ⟨_, rfl⟩
  rw [hv]
  have HV := Lib.hid hv
  clear hv
  go_enter Tryd.func33, Tryd.ntmps33
  go_wp2_with fail
  refine (HSP.out _).mono ?_
  rintro e w1 ⟨W, A, c, rfl, hsp, hz, hr, hA, hb⟩
  have ZC1 := Lib.hid ((zc_new w 32).below hb)
  have HB := Lib.hid (show Below w.heap.size w w1 from by repeat (first | (with_reducible exact Below.refl _ _) | (with_reducible assumption) | (with_reducible refine bl_alloc ?_ _) | (with_reducible refine bl_drew ?_) | (with_reducible refine bl_drewN ?_ _) | ((with_reducible refine bl_set ?_ ?hb _); (case hb => first | (simp; done) | omega | (simp; omega))) | (with_reducible refine bl_trans ?_ (by assumption))))
  have hz1 := ZC1.out.2.2
  have hv := HV.out
  rw [← hsp] at hv
  clear hb hsp HSP HV
  by_cases hW : W.length = 5
  · have hQ : (rdL W).length = 5 := by unfold rdL; rw [List.length_map, hW]
    rw [hW] at hr
    rw [hW]
    have HR := Lib.hid hr
    have HZ := Lib.hid hz
    have HV := Lib.hid hv
    have hne : ∀ b off k, A = some ⟨b, off, k⟩ → b ≠ w.heap.size := by
      intro b off k h
      have := hA b off k h
      simp at this
      omega
    have HNE := Lib.hid hne
    have HO0 : OwnG 3 1 w1.heap.size w1 w1.heap.size w1 (.slice none 0 0) 0 [] := OwnG.nil _ _
    clear hr hz hv hA hne
    go_wp2_with fail
    go_loopw [5, 16] (fun o i wr => ∃ j : Nat, j ≤ 5 ∧ i = .int .i64 j ∧ Hid (OwnG 3 1 w1.heap.size w1 w1.heap.size wr o j (((rdL W).take j).map (Value.int .i64)))) (fun _ i _ => 5 - (intOf i).toNat)
    case atStart => exact ⟨0, Nat.zero_le _, rfl, Lib.hid HO0⟩
    case round =>
      obtain ⟨j, hj, rfl, HO⟩ := hrel
      have hso := HO.out.gr.size
      by_cases hlt : j < 5
      · obtain ⟨b, off, x, rfl, hbB, hx, hc⟩ := HR.out.atS hlt
        have hcj : wr.cell? ⟨b, off + j, none⟩ = some (.string x) := (HO.out.cell hbB (by omega) (off + j)).trans hc
        have HS := Lib.hid (rdL_snoc hx)
        have HX := Lib.hid (fun W' => l1Read_any x W' (by have := HZ.out x (List.mem_of_getElem? hx); omega))
        have hbr : b < wr.heap.size := by omega
        clear hc hx
        go_wp2_with (go_at_call 67; refine (HX.out _).mono ?_; rintro e w3 ⟨rfl, rfl⟩; refine Hid.out ?_)
        refine Lib.hid ?_
        go_wp2_with (at_builtin; refine wpList_append_own_at _ rfl _ _ 49 rfl w1.heap.size 3 i0 (.int .i64 0) 1 8 Tryd.underlying49 hi0 hi1 hi2 hi3 rfl (by decide) _ _ _ rfl ((HO.out.alloc _).own) ⟨wr.heap.size, 0, none⟩ 1 1 [.int .i64 (rdV 6 x.data.toList)] rfl rfl ?zc1 ?zc2 ?zc3 ?zc4 ?zc5 ?_)
        case zc1 => exact cell_one_new _ _ _
        case zc2 => first | rfl | (intro u hu; simp at hu; subst hu; rfl)
        case zc3 => unfold maxLen; omega
        case zc4 => omega
        case zc5 => simp; omega
        intro v2 w5 hown5 hg5 _ hat5
        have HO5 := Lib.hid (HO.out.push hown5 hg5 (by simpa using hat5))
        clear hown5 hg5 hat5
        go_wp2
        go_roundw
        case rel => exact ⟨j + 1, by omega, by go_num, Lib.hid (by rw [HS.out, List.map_take]; exact HO5.out)⟩
        case measure => simp [intOf]; omega
      · have hjn : j = 5 := by omega
        subst hjn
        have ho := HO.out.own
        rw [List.take_of_length_le (by omega)] at ho
        obtain ⟨A3, c3, rfl, hw3⟩ := own_wr ho
        obtain ⟨x, y, z, u, t, hWW⟩ := five hW
        have hQQ : rdL W = [rdV 6 x.data.toList, rdV 6 y.data.toList, rdV 6 z.data.toList, rdV 6 u.data.toList, rdV 6 t.data.toList] := by rw [hWW]; rfl
        have hvv := HV.out
        rw [hWW] at hvv
        have hvv2 : stkV (rdV 6 x.data.toList) (rdV 6 y.data.toList) (rdV 6 z.data.toList) (rdV 6 u.data.toList) (rdV 6 t.data.toList) = v := hvv
        rw [hQQ] at hw3
        obtain ⟨g, rfl, hg1, hgl, hcc, hff⟩ := hw3.2 (by omega)
        generalize rdV 6 x.data.toList = p at *
        generalize rdV 6 y.data.toList = q at *
        generalize rdV 6 z.data.toList = r at *
        generalize rdV 6 u.data.toList = k at *
        generalize rdV 6 t.data.toList = l at *
        have hc0 : wr.cell? ⟨g, 0, none⟩ = some (.int .i64 p) := hcc 0 _ rfl
        have hc1 : wr.cell? ⟨g, 1, none⟩ = some (.int .i64 q) := hcc 1 _ rfl
        have hc2 : wr.cell? ⟨g, 2, none⟩ = some (.int .i64 r) := hcc 2 _ rfl
        have hc3 : wr.cell? ⟨g, 3, none⟩ = some (.int .i64 k) := hcc 3 _ rfl
        have hc4 : wr.cell? ⟨g, 4, none⟩ = some (.int .i64 l) := hcc 4 _ rfl
        have HZr : Hid (ZC wr w.heap.size) := Lib.hid ⟨fun o ho => (HO.out.cell hz1 (by omega) o).trans (ZC1.out.1 o ho), fun o => (HO.out.frozen hz1 (by omega) o).trans (ZC1.out.2.1 o), by omega⟩
        have HBr := Lib.hid (HB.out.trans ((HO.out.to_below (B := w1.heap.size) (Nat.le_refl _) (Nat.le_refl _)).mono (by omega)))
        have HMO := Lib.hid (maOf_get g 0 5 c3 p q r k l wr hgl (by omega) hc0 hc1 hc2 hc3 hc4)
        have HCC := Lib.hid (And.intro hc0 (And.intro hc1 (And.intro hc2 (And.intro hc3 hc4))))
        clear hw3 hcc hff hQQ ho hc0 hc1 hc2 hc3 hc4 hvv hWW HO hso hQ HV
        rcases hst : strikeB p q r k l with _ | _
        · obtain rfl : ((0, 0, 0, 0, 0), false) = v := by rw [← hvv2]; exact (stk_no hst).symm
          have HST := Lib.hid hst
          clear hst hvv2
          go_wp2_with fail
          refine HMO.out.mono ?_
          rintro e w4 ⟨rfl, hb4⟩
          have HZ4 := Lib.hid (HZr.out.below hb4)
          have HB4 := Lib.hid (bl_trans HBr.out hb4)
          clear hb4
          go_wp2_with fail
          refine (maGood_any _ _ _ _ _ _).mono ?_
          rw [HST.out]
          rintro e w5 ⟨rfl, hb5⟩
          have HB5 := Lib.hid (bl_trans HB4.out hb5)
          obtain ⟨hzc, hzf, hzz⟩ := HZ4.out.below hb5
          have z0 := hzc 0 (by omega)
          have z1 := hzc 1 (by omega)
          have z2 := hzc 2 (by omega)
          have z3 := hzc 3 (by omega)
          have z4 := hzc 4 (by omega)
          clear hb5 hzc
          go_wp2
          refine bodyPost_ret (v := .tuple #[.agg #[.int .i64 0, .int .i64 0, .int .i64 0, .int .i64 0, .int .i64 0], .bool false]) (by simp [results, Tryd.results33, go_sem, *]) rfl ⟨rfl, ?_⟩
          have := HB5.out
          exact by repeat (first | (with_reducible exact Below.refl _ _) | (with_reducible assumption) | (with_reducible refine bl_alloc ?_ _) | (with_reducible refine bl_drew ?_) | (with_reducible refine bl_drewN ?_ _) | ((with_reducible refine bl_set ?_ ?hb _); (case hb => first | (simp; done) | omega | (simp; omega))) | (with_reducible refine bl_trans ?_ (by assumption)))
        · obtain rfl : ((p, q, r, k, l), true) = v := by rw [← hvv2]; exact (stk_yes hst).symm
          have HST := Lib.hid hst
          clear hst hvv2
          go_wp2_with fail
          refine HMO.out.mono ?_
          rintro e w4 ⟨rfl, hb4⟩
          have HZ4 := Lib.hid (HZr.out.below hb4)
          have HB4 := Lib.hid (bl_trans HBr.out hb4)
          have HF4 := Lib.hid hb4
          clear hb4
          go_wp2_with fail
          refine (maGood_any _ _ _ _ _ _).mono ?_
          rw [HST.out]
          rintro e w5 ⟨rfl, hb5⟩
          have HB5 := Lib.hid (bl_trans HB4.out hb5)
          have HF5 := Lib.hid (bl_trans HF4.out hb5)
          have HZ5 := Lib.hid (HZ4.out.below hb5)
          have hg5 : g < w5.heap.size := by have := HF5.out.size; omega
          have HMO2 := Lib.hid (maOf_get g 0 5 c3 p q r k l w5 hg5 (by omega) ((HF5.out.cell (p := ⟨g, 0, none⟩) hgl).trans HCC.out.1) ((HF5.out.cell (p := ⟨g, 0 + 1, none⟩) hgl).trans HCC.out.2.1) ((HF5.out.cell (p := ⟨g, 0 + 2, none⟩) hgl).trans HCC.out.2.2.1) ((HF5.out.cell (p := ⟨g, 0 + 3, none⟩) hgl).trans HCC.out.2.2.2.1) ((HF5.out.cell (p := ⟨g, 0 + 4, none⟩) hgl).trans HCC.out.2.2.2.2))
          clear hb5
          go_wp2_with fail
          refine HMO2.out.mono ?_
          rintro e w6 ⟨rfl, hb6⟩
          have HB6 := Lib.hid (bl_trans HB5.out hb6)
          obtain ⟨hzc, hzf, hzz⟩ := HZ5.out.below hb6
          have z0 := hzc 0 (by omega)
          have z1 := hzc 1 (by omega)
          have z2 := hzc 2 (by omega)
          have z3 := hzc 3 (by omega)
          have z4 := hzc 4 (by omega)
          clear hb6 hzc
          go_wp2
          refine bodyPost_ret (v := .tuple #[.agg #[.int .i64 p, .int .i64 q, .int .i64 r, .int .i64 k, .int .i64 l], .bool true]) (by simp [results, Tryd.results33, go_sem, *]) rfl ⟨rfl, ?_⟩
          have := HB6.out
          exact by repeat (first | (with_reducible exact Below.refl _ _) | (with_reducible assumption) | (with_reducible refine bl_alloc ?_ _) | (with_reducible refine bl_drew ?_) | (with_reducible refine bl_drewN ?_ _) | ((with_reducible refine bl_set ?_ ?hb _); (case hb => first | (simp; done) | omega | (simp; omega))) | (with_reducible refine bl_trans ?_ (by assumption)))
  · have hW5 : ¬ (W.length : Int) = 5 := by omega
    obtain rfl : ((0, 0, 0, 0, 0), false) = v := by rw [← hv]; exact (ps5_out (by rw [List.length_map]; exact hW)).symm
    obtain ⟨hzc, hzf, hzz⟩ := ZC1.out
    have z0 := hzc 0 (by omega)
    have z1 := hzc 1 (by omega)
    have z2 := hzc 2 (by omega)
    have z3 := hzc 3 (by omega)
    have z4 := hzc 4 (by omega)
    clear hzc hv hr hz hA
    go_wp2
    refine bodyPost_ret (v := .tuple #[.agg #[.int .i64 0, .int .i64 0, .int .i64 0, .int .i64 0, .int .i64 0], .bool false]) (by simp [results, Tryd.results33, go_sem, *]) rfl ⟨rfl, ?_⟩
    have := HB.out
    exact by repeat (first | (with_reducible exact Below.refl _ _) | (with_reducible assumption) | (with_reducible refine bl_alloc ?_ _) | (with_reducible refine bl_drew ?_) | (with_reducible refine bl_drewN ?_ _) | ((with_reducible refine bl_set ?_ ?hb _); (case hb => first | (simp; done) | omega | (simp; omega))) | (with_reducible refine bl_trans ?_ (by assumption)))
end Go.Proofs.YtgfobchpkjpiiaaDoor
