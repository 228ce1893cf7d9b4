/-
  BestCastOrder: csBest, the step of its recursion.
-/
import Derived.Test.YtabmhmbmdegoaaaCs19
namespace Go.Proofs.Ytabmhmbmdegoaaa
open Go.RowKit
set_option linter.unusedVariables false
attribute [local go_sem ↓] Go.wp_at_zero Go.wp_at_succ

set_option maxHeartbeats 4000000 in
theorem csBest_step (a h c : Int) (A : Option Addr) (n cp : Nat) (xs : List Cst) (b0 : Nat) (hn : n ≤ 8) (hxl : xs.length = n) (hm : machB a h c = true) (hx : castsB xs = true) (g : Nat) (ih : BsAll a h c A n cp xs b0 g) : BsAll a h c A n cp xs b0 (g + 1) := by
  intro A1 k k1 L A2 kb kc best least w hLf hr hw hk1 hwb hd hbl hb0
  have hl := hw.1
  have hlb := hwb.1
  have HR := Lib.hid hr
  have HW := Lib.hid hw
  have HWB := Lib.hid hwb
  have HD := Lib.hid hd
  have IH := Lib.hid ih
  obtain ⟨i0, hi0, hi1, hi2, hi3⟩ := info_parts infoI
  have HLA := Lib.hid (fun (W : World) (hb : Below w.heap.size w W) => csLast_any a h c A A1 n cp k k1 xs L W ⟨(hr.below hb).more hb.size, (hw.below hb).rd, by omega, by omega, hk1⟩ (ordB_of hm hx hd))
  obtain ⟨t, ht⟩ : ∃ t, (csTo h c xs L a L.length).t = t := ⟨_, rfl⟩
  rw [ht] at HLA
  have htm : tmV a h c xs L = t := ht
  have hbe : ((k : Int) == (n : Int)) = false := by simp; omega
  clear hr hw hwb hd ih ht
  by_cases h1 : kb = n
  · obtain rfl : n = kb := h1.symm
    clear h1
    have hbf : ((n : Int) == (n : Int)) = true := by simp
    by_cases h2 : 0 < k
    · by_cases h3 : least ≤ t
      · have HF := Lib.hid (show bs n (tmV a h c xs) (g + 1) L (best, least) = (best, least) from bs_cut ⟨by dsimp only; omega, by omega, by rw [htm]; exact h3⟩)
        clear htm
        go_enter Try.func69, Try.ntmps69
        go_wp2_with (go_at_call 60; refine (HLA.out _ (by repeat (first | (with_reducible exact Below.refl _ _) | (with_reducible assumption) | (with_reducible refine bl_alloc ?_ _) | (with_reducible refine bl_drew ?_) | (with_reducible refine bl_drewN ?_ _) | ((with_reducible refine bl_set ?_ ?hb _); (case hb => first | (simp; done) | omega | (simp; omega))) | (with_reducible refine bl_trans ?_ (by assumption))))).mono ?_; rintro e w6 ⟨rfl, hb⟩; have HB6 := Lib.hid (show Below w.heap.size w w6 from by repeat (first | (with_reducible exact Below.refl _ _) | (with_reducible assumption) | (with_reducible refine bl_alloc ?_ _) | (with_reducible refine bl_drew ?_) | (with_reducible refine bl_drewN ?_ _) | ((with_reducible refine bl_set ?_ ?hb _); (case hb => first | (simp; done) | omega | (simp; omega))) | (with_reducible refine bl_trans ?_ (by assumption)))); clear hb)
        go_ret2
        rw [HF.out]
        exact ⟨A2, kc, by rw [hlb]; rfl, by rw [hlb]; exact HWB.out.below HB6.out, HB6.out, hbl⟩
      · have HNC := Lib.hid (show ¬ bsCut n (tmV a h c xs) L (best, least) by rintro ⟨_, _, h⟩; rw [htm] at h; exact h3 h)
        clear htm
        go_enter Try.func69, Try.ntmps69
        go_wp2_with (go_at_call 60; refine (HLA.out _ (by repeat (first | (with_reducible exact Below.refl _ _) | (with_reducible assumption) | (with_reducible refine bl_alloc ?_ _) | (with_reducible refine bl_drew ?_) | (with_reducible refine bl_drewN ?_ _) | ((with_reducible refine bl_set ?_ ?hb _); (case hb => first | (simp; done) | omega | (simp; omega))) | (with_reducible refine bl_trans ?_ (by assumption))))).mono ?_; rintro e w6 ⟨rfl, hb⟩; have HB6 := Lib.hid (show Below w.heap.size w w6 from by repeat (first | (with_reducible exact Below.refl _ _) | (with_reducible assumption) | (with_reducible refine bl_alloc ?_ _) | (with_reducible refine bl_drew ?_) | (with_reducible refine bl_drewN ?_ _) | ((with_reducible refine bl_set ?_ ?hb _); (case hb => first | (simp; done) | omega | (simp; omega))) | (with_reducible refine bl_trans ?_ (by assumption)))); have HA6 := Lib.hid (show Below (w.heap.size + 1) (w.alloc (.cells #[.int .i64 a, .int .i64 h, .int .i64 c] 25)) w6 from hb.mono (by simp)); clear hb)
        go_loopw [3, 4, 59] (fun b q i wr => ∃ (j : Nat) (A4 : Option Addr) (c4 : Nat), j ≤ n ∧ i = .int .i64 j ∧ b = .slice A4 (bsK n (tmV a h c xs) g L (best, least) j).1.length c4 ∧ q = .int .i64 (bsK n (tmV a h c xs) g L (best, least) j).2 ∧ Wr wr b0 A4 (bsK n (tmV a h c xs) g L (best, least) j).1.length (bsK n (tmV a h c xs) g L (best, least) j).1 ∧ Below (w.heap.size + 1) (w.alloc (.cells #[.int .i64 a, .int .i64 h, .int .i64 c] 25)) wr ∧ (bsK n (tmV a h c xs) g L (best, least) j).1.length ≤ 8) (fun _ _ i _ => n - (intOf i).toNat)
        case atStart =>
          refine ⟨0, A2, kc, Nat.zero_le _, rfl, ?_, rfl, ?_, HA6.out, hbl⟩
          · rw [bsK_zero, hlb]
          · rw [bsK_zero, hlb]; exact HWB.out.below (HB6.out)
        case round =>
          obtain ⟨j, A4, c4, hj, rfl, rfl, rfl, hwj, hbj, hlj⟩ := hrel
          obtain ⟨⟨R, r⟩, hR⟩ : ∃ R, bsK n (tmV a h c xs) g L (best, least) j = R := ⟨_, rfl⟩
          have HRJ := Lib.hid hR
          rw [hR] at hwj hlj
          rw [hR]
          dsimp only at hwj hlj ⊢
          clear hR
          have WJ := Lib.hid hwj
          have hbw : Below w.heap.size w wr := (bl_alloc (Below.refl w.heap.size w) (.cells #[.int .i64 a, .int .i64 h, .int .i64 c] 25)).trans (hbj.mono (by omega))
          have hsz : w.heap.size + 1 ≤ wr.heap.size := by have := hbj.size; simpa using this
          have BJ := Lib.hid hbj
          have BW := Lib.hid hbw
          have d0 : wr.cell? ⟨w.heap.size, 0, none⟩ = some (.int .i64 a) := (hbj.cell (p := ⟨w.heap.size, 0, none⟩) (by show w.heap.size < _; omega)).trans (by simp)
          have d1 : wr.cell? ⟨w.heap.size, 1, none⟩ = some (.int .i64 h) := (hbj.cell (p := ⟨w.heap.size, 1, none⟩) (by show w.heap.size < _; omega)).trans (by simp)
          have d2 : wr.cell? ⟨w.heap.size, 2, none⟩ = some (.int .i64 c) := (hbj.cell (p := ⟨w.heap.size, 2, none⟩) (by show w.heap.size < _; omega)).trans (by simp)
          clear hwj hbj hbw
          by_cases hlt : j < n
          · obtain ⟨wo, rfl⟩ : ∃ wo : World, wo = wr := ⟨_, rfl⟩
            have hrx := (HR.out.below BW.out).more BW.out.size
            have HRX := Lib.hid hrx
            have hwo := HW.out.below BW.out
            have HWO := Lib.hid hwo
            have HO := Lib.hid (fun (W : World) (hb : Below wo.heap.size wo W) => l1OwnN_any A1 k k1 L W (hwo.below hb).rd (by omega))
            have hrd := hwo.rd
            clear hrx hwo
            rcases hh : hasI L (j : Int) with _ | _
            · have HH := Lib.hid hh
              have HDN := Lib.hid (diff_snoc HD.out (i := (j : Int)) (by omega) (by omega) hh)
              have HGO := Lib.hid (bsK_new (n := n) (t := tmV a h c xs) (g := g) (s := (best, least)) hh)
              clear hh
              go_wp2_with (go_at_call 73; refine (l1Has_any _ _ _ _ L (j : Int) _ hrd (by unfold maxLen; omega)).mono ?_; rw [HH.out]; rintro e w' ⟨rfl, rfl⟩)
              refine wp_region_noPanic ?_
              refine wp_region_held_drew (S := (fun w' => w'.cell? ⟨w.heap.size, 0, none⟩ = some (.int .i64 a) ∧ w'.cell? ⟨w.heap.size, 1, none⟩ = some (.int .i64 h) ∧ w'.cell? ⟨w.heap.size, 2, none⟩ = some (.int .i64 c))) (by kernel_rfl) (by (try dsimp only); go_keep) (fun hHeld => ?_)
              refine take_of (some 67) (i := 0) (v := ?vq1_0) rfl rfl (by kernel_rfl) (by kernel_rfl) (by kernel_rfl) (fun _ _ _ h => h) (Or.inl ⟨by rfl, ?hyq1_0⟩) (by assumption) ?restq1_0
              case hyq1_0 => (intro w hSw; (try dsimp only at hSw); go_simp; try with_reducible rfl)
              try simp only [Act.put, List.setIfInBounds_toArray, List.set_cons_zero, List.set_cons_succ]
              refine take_of (some 68) (i := 1) (v := ?vq1_1) rfl rfl (by kernel_rfl) (by kernel_rfl) (by kernel_rfl) (fun _ _ _ h => h) (Or.inl ⟨by rfl, ?hyq1_1⟩) (by assumption) ?restq1_1
              case hyq1_1 => (intro w hSw; (try dsimp only at hSw); go_simp; try with_reducible rfl)
              try simp only [Act.put, List.setIfInBounds_toArray, List.set_cons_zero, List.set_cons_succ]
              refine take_of (some 69) (i := 2) (v := ?vq1_2) rfl rfl (by kernel_rfl) (by kernel_rfl) (by kernel_rfl) (fun _ _ _ h => h) (Or.inl ⟨by rfl, ?hyq1_2⟩) (by assumption) ?restq1_2
              case hyq1_2 => (intro w hSw; (try dsimp only at hSw); go_simp; try with_reducible rfl)
              try simp only [Act.put, List.setIfInBounds_toArray, List.set_cons_zero, List.set_cons_succ]
              refine take_of (some 71) (i := 4) (v := ?vq1_4) rfl rfl (by kernel_rfl) (by kernel_rfl) (by kernel_rfl) (fun _ _ _ h => h) (Or.inl ⟨by rfl, ?hyq1_4⟩) (by assumption) ?restq1_4
              case hyq1_4 => (intro w hSw; (try dsimp only at hSw); go_simp; try with_reducible rfl)
              try simp only [Act.put, List.setIfInBounds_toArray, List.set_cons_zero, List.set_cons_succ]
              refine take_of (some 74) (i := 7) (v := ?vq1_7) rfl rfl (by kernel_rfl) (by kernel_rfl) (by kernel_rfl) (fun _ _ _ h => h) (Or.inl ⟨by rfl, ?hyq1_7⟩) (by assumption) ?restq1_7
              case hyq1_7 => (intro w hSw; (try dsimp only at hSw); go_simp; try with_reducible rfl)
              try simp only [Act.put, List.setIfInBounds_toArray, List.set_cons_zero, List.set_cons_succ]
              refine take_of (some 75) (i := 8) (v := ?vq1_8) rfl rfl (by kernel_rfl) (by kernel_rfl) (by kernel_rfl) (fun _ _ _ h => h) (Or.inl ⟨by rfl, ?hyq1_8⟩) (by assumption) ?restq1_8
              case hyq1_8 => (intro w hSw; (try dsimp only at hSw); go_simp; try with_reducible rfl)
              try simp only [Act.put, List.setIfInBounds_toArray, List.set_cons_zero, List.set_cons_succ]
              refine wpAnyH_ready (rs := [3, 5]) (by kernel_rfl) (by simp) ?_
              refine AllReadyH.cons rfl (fun K hK => ?_) (AllReadyH.cons rfl (fun K hK => ?_) AllReadyH.nil)
              · go_simp
                (go_at_call 75; refine (HO.out _ (bl_drew (Below.refl wo.heap.size wo))).mono ?_; rintro e w3 ⟨v1, rfl, ho3⟩; have HO3 := Lib.hid ho3; have hb3 : Below wo.heap.size wo w3 := (bl_drew (Below.refl wo.heap.size wo)).trans (ho3.to_below (Nat.le_refl _) (Nat.le_refl _)); have hs3 := hb3.size; have x0 := (hb3.cell (p := ⟨w.heap.size, 0, none⟩) (by show w.heap.size < _; omega)).trans d0; have x1 := (hb3.cell (p := ⟨w.heap.size, 1, none⟩) (by show w.heap.size < _; omega)).trans d1; have x2 := (hb3.cell (p := ⟨w.heap.size, 2, none⟩) (by show w.heap.size < _; omega)).trans d2; clear ho3 hb3)
                go_wp2_with fail
                refine hK.out _ _ (by (try dsimp only); go_keep) (fun hHeld => ?_)
                clear hK K
                try simp only [Act.put, List.setIfInBounds_toArray, List.set_cons_zero, List.set_cons_succ]
                refine wpAnyH_ready (rs := [5]) (by kernel_rfl) (by simp) ?_
                refine AllReadyH.cons rfl (fun K hK => ?_) AllReadyH.nil
                go_simp
                (skip)
                go_wp2_with fail
                refine hK.out _ _ (by (try dsimp only); go_keep) (fun hHeld => ?_)
                clear hK K
                try simp only [Act.put, List.setIfInBounds_toArray, List.set_cons_zero, List.set_cons_succ]
                refine wpAnyH_ready (rs := [6]) (by kernel_rfl) (by simp) ?_
                refine AllReadyH.cons rfl (fun K hK => ?_) AllReadyH.nil
                rw [if_pos (by rfl)]
                (refine wp_append_own1 _ (.tmp 70) (.tmp 72) 42 (by rfl) wo.heap.size 3 i0 Try.underlying42 hi0 hi1 hi2 hi3 v1 k (L.map (Value.int .i64)) (by rfl) (HO3.out.alloc _).own ⟨w3.heap.size, 0, none⟩ (j : Int) (by rfl) (by simp) (by omega) (by simp; omega) ?_; intro v2 w5 hown5 hg5 hat5; have HN5 := HO3.out.push hown5 hg5 (by simpa using hat5); have hb5 : Below wo.heap.size wo w5 := (bl_drew (Below.refl wo.heap.size wo)).trans (HN5.to_below (Nat.le_refl _) (Nat.le_refl _)); have hown6 : w5.ownsRow wo.heap.size 3 1 v2 (k + 1) ((L ++ [(j : Int)]).map (Value.int .i64)) := (by simpa using hown5); obtain ⟨A5, c5, rfl, hw5⟩ := own_wr hown6; have hc5 := own_cap hown6; have HW5 := Lib.hid hw5; have HB5 := Lib.hid hb5; have hs5 := hb5.size; have y0 := (hb5.cell (p := ⟨w.heap.size, 0, none⟩) (by show w.heap.size < _; omega)).trans d0; have y1 := (hb5.cell (p := ⟨w.heap.size, 1, none⟩) (by show w.heap.size < _; omega)).trans d1; have y2 := (hb5.cell (p := ⟨w.heap.size, 2, none⟩) (by show w.heap.size < _; omega)).trans d2; have BJ5 := Lib.hid (BJ.out.trans (hb5.mono (by omega))); clear hown5 hg5 hat5 HN5 hown6 hw5 hb5 x0 x1 x2)
                refine hK.out _ _ (by (try dsimp only); go_keep) (fun hHeld => ?_)
                clear hK K
                try simp only [Act.put, List.setIfInBounds_toArray, List.set_cons_zero, List.set_cons_succ]
                refine wpAnyH_ready (rs := [9]) (by kernel_rfl) (by simp) ?_
                refine AllReadyH.cons rfl (fun K hK => ?_) AllReadyH.nil
                go_simp
                (go_at_call 69; refine (IH.out A5 (k + 1) c5 (L ++ [(j : Int)]) A4 R.length c4 R r w5 (by rw [List.length_append, List.length_singleton]; omega) ((HRX.out.below HB5.out).more HB5.out.size) (wr_base HW5.out (by omega)) hc5 (WJ.out.below HB5.out) HDN.out hlj (by omega)).mono ?_; rintro e w7 ⟨A7, c7, rfl, hw7, hb7, hl7⟩; have z0 := (hb7.cell (p := ⟨w.heap.size, 0, none⟩) (by show w.heap.size < _; omega)).trans y0; have z1 := (hb7.cell (p := ⟨w.heap.size, 1, none⟩) (by show w.heap.size < _; omega)).trans y1; have z2 := (hb7.cell (p := ⟨w.heap.size, 2, none⟩) (by show w.heap.size < _; omega)).trans y2; have HW7 := Lib.hid hw7; have HB7 := Lib.hid hb7; clear hw7 hb7)
                go_wp2_with fail
                refine hK.out _ _ (by (try dsimp only); go_keep) (fun hHeld => ?_)
                clear hK K
                try simp only [Act.put, List.setIfInBounds_toArray, List.set_cons_zero, List.set_cons_succ]
                refine take_of (some 66) (i := 10) (v := ?vq2_10) rfl rfl (by kernel_rfl) (by kernel_rfl) (by kernel_rfl) (fun _ _ _ h => h) (Or.inl ⟨by rfl, ?hyq2_10⟩) (by assumption) ?restq2_10
                case hyq2_10 => (intro w hSw; (try dsimp only at hSw); go_simp; try with_reducible rfl)
                try simp only [Act.put, List.setIfInBounds_toArray, List.set_cons_zero, List.set_cons_succ]
                refine take_of (some 77) (i := 11) (v := ?vq2_11) rfl rfl (by kernel_rfl) (by kernel_rfl) (by kernel_rfl) (fun _ _ _ h => h) (Or.inl ⟨by rfl, ?hyq2_11⟩) (by assumption) ?restq2_11
                case hyq2_11 => (intro w hSw; (try dsimp only at hSw); go_simp; try with_reducible rfl)
                try simp only [Act.put, List.setIfInBounds_toArray, List.set_cons_zero, List.set_cons_succ]
                refine take_of (some 78) (i := 12) (v := ?vq2_12) rfl rfl (by kernel_rfl) (by kernel_rfl) (by kernel_rfl) (fun _ _ _ h => h) (Or.inl ⟨by rfl, ?hyq2_12⟩) (by assumption) ?restq2_12
                case hyq2_12 => (intro w hSw; (try dsimp only at hSw); go_simp; try with_reducible rfl)
                try simp only [Act.put, List.setIfInBounds_toArray, List.set_cons_zero, List.set_cons_succ]
                refine take_of (some 3) (i := 13) (v := ?vq2_13) rfl rfl (by kernel_rfl) (by kernel_rfl) (by kernel_rfl) (fun _ _ _ h => h) (Or.inl ⟨by rfl, ?hyq2_13⟩) (by assumption) ?restq2_13
                case hyq2_13 => (intro w hSw; (try dsimp only at hSw); go_simp; try with_reducible rfl)
                try simp only [Act.put, List.setIfInBounds_toArray, List.set_cons_zero, List.set_cons_succ]
                refine take_of (some 4) (i := 14) (v := ?vq2_14) rfl rfl (by kernel_rfl) (by kernel_rfl) (by kernel_rfl) (fun _ _ _ h => h) (Or.inl ⟨by rfl, ?hyq2_14⟩) (by assumption) ?restq2_14
                case hyq2_14 => (intro w hSw; (try dsimp only at hSw); go_simp; try with_reducible rfl)
                try simp only [Act.put, List.setIfInBounds_toArray, List.set_cons_zero, List.set_cons_succ]
                refine wpAnyH_done (by kernel_rfl) ?_ _
                refine NoPanic.normal ?_
                have HG2 := Lib.hid (show bsK n (tmV a h c xs) g L (best, least) (j + 1) = bs n (tmV a h c xs) g (L ++ [(j : Int)]) (R, r) by rw [HGO.out, HRJ.out])
                go_wp2
                go_roundw
                case rel => exact ⟨j + 1, A7, c7, by omega, by go_num, by rw [HG2.out], by rw [HG2.out], by rw [HG2.out]; exact HW7.out, BJ5.out.trans (HB7.out.mono (by omega)), by rw [HG2.out]; exact hl7⟩
                case measure => simp [intOf]; omega
              · go_simp
                (skip)
                go_wp2_with fail
                refine hK.out _ _ (by (try dsimp only); go_keep) (fun hHeld => ?_)
                clear hK K
                try simp only [Act.put, List.setIfInBounds_toArray, List.set_cons_zero, List.set_cons_succ]
                refine wpAnyH_ready (rs := [3]) (by kernel_rfl) (by simp) ?_
                refine AllReadyH.cons rfl (fun K hK => ?_) AllReadyH.nil
                go_simp
                (go_at_call 75; refine (HO.out _ (bl_drew (bl_alloc (Below.refl wo.heap.size wo) (.cells #[.int .i64 (j : Int)] 3)))).mono ?_; rintro e w3 ⟨v1, rfl, ho3⟩; have HO3 := Lib.hid ho3; have hb3 : Below wo.heap.size wo w3 := (bl_drew (bl_alloc (Below.refl wo.heap.size wo) (.cells #[.int .i64 (j : Int)] 3))).trans (ho3.to_below (by simp) (by simp)); have hs3 := hb3.size; have x0 := (hb3.cell (p := ⟨w.heap.size, 0, none⟩) (by show w.heap.size < _; omega)).trans d0; have x1 := (hb3.cell (p := ⟨w.heap.size, 1, none⟩) (by show w.heap.size < _; omega)).trans d1; have x2 := (hb3.cell (p := ⟨w.heap.size, 2, none⟩) (by show w.heap.size < _; omega)).trans d2; have hs4 : wo.heap.size + 1 ≤ w3.heap.size := (by have := ho3.gr.size; simpa using this); have hn3 : w3.cell? ⟨wo.heap.size, 0, none⟩ = some (.int .i64 (j : Int)) := ((ho3.to_below (Nat.le_refl _) (Nat.le_refl _)).cell (p := ⟨wo.heap.size, 0, none⟩) (by simp)).trans (by simp); clear ho3 hb3)
                go_wp2_with fail
                refine hK.out _ _ (by (try dsimp only); go_keep) (fun hHeld => ?_)
                clear hK K
                try simp only [Act.put, List.setIfInBounds_toArray, List.set_cons_zero, List.set_cons_succ]
                refine wpAnyH_ready (rs := [6]) (by kernel_rfl) (by simp) ?_
                refine AllReadyH.cons rfl (fun K hK => ?_) AllReadyH.nil
                rw [if_pos (by rfl)]
                (refine wp_append_own1 _ (.tmp 70) (.tmp 72) 42 (by rfl) _ 3 i0 Try.underlying42 hi0 hi1 hi2 hi3 v1 k (L.map (Value.int .i64)) (by rfl) HO3.out.own ⟨wo.heap.size, 0, none⟩ (j : Int) (by rfl) hn3 (by omega) (by simpa using hs4) ?_; intro v2 w5 hown5 hg5 hat5; have HN5 := HO3.out.step hown5 hg5 hat5; have hb5 : Below wo.heap.size wo w5 := (bl_drew (bl_alloc (Below.refl wo.heap.size wo) (.cells #[.int .i64 (j : Int)] 3))).trans (HN5.to_below (by simp) (by simp)); have hown6 : w5.ownsRow wo.heap.size 3 1 v2 (k + 1) ((L ++ [(j : Int)]).map (Value.int .i64)) := own_base (base := wo.heap.size + 1) (by simpa using hown5) (by omega); obtain ⟨A5, c5, rfl, hw5⟩ := own_wr hown6; have hc5 := own_cap hown6; have HW5 := Lib.hid hw5; have HB5 := Lib.hid hb5; have hs5 := hb5.size; have y0 := (hb5.cell (p := ⟨w.heap.size, 0, none⟩) (by show w.heap.size < _; omega)).trans d0; have y1 := (hb5.cell (p := ⟨w.heap.size, 1, none⟩) (by show w.heap.size < _; omega)).trans d1; have y2 := (hb5.cell (p := ⟨w.heap.size, 2, none⟩) (by show w.heap.size < _; omega)).trans d2; have BJ5 := Lib.hid (BJ.out.trans (hb5.mono (by omega))); clear hown5 hg5 hat5 HN5 hown6 hw5 hb5 x0 x1 x2)
                refine hK.out _ _ (by (try dsimp only); go_keep) (fun hHeld => ?_)
                clear hK K
                try simp only [Act.put, List.setIfInBounds_toArray, List.set_cons_zero, List.set_cons_succ]
                refine wpAnyH_ready (rs := [9]) (by kernel_rfl) (by simp) ?_
                refine AllReadyH.cons rfl (fun K hK => ?_) AllReadyH.nil
                go_simp
                (go_at_call 69; refine (IH.out A5 (k + 1) c5 (L ++ [(j : Int)]) A4 R.length c4 R r w5 (by rw [List.length_append, List.length_singleton]; omega) ((HRX.out.below HB5.out).more HB5.out.size) (wr_base HW5.out (by omega)) hc5 (WJ.out.below HB5.out) HDN.out hlj (by omega)).mono ?_; rintro e w7 ⟨A7, c7, rfl, hw7, hb7, hl7⟩; have z0 := (hb7.cell (p := ⟨w.heap.size, 0, none⟩) (by show w.heap.size < _; omega)).trans y0; have z1 := (hb7.cell (p := ⟨w.heap.size, 1, none⟩) (by show w.heap.size < _; omega)).trans y1; have z2 := (hb7.cell (p := ⟨w.heap.size, 2, none⟩) (by show w.heap.size < _; omega)).trans y2; have HW7 := Lib.hid hw7; have HB7 := Lib.hid hb7; clear hw7 hb7)
                go_wp2_with fail
                refine hK.out _ _ (by (try dsimp only); go_keep) (fun hHeld => ?_)
                clear hK K
                try simp only [Act.put, List.setIfInBounds_toArray, List.set_cons_zero, List.set_cons_succ]
                refine take_of (some 66) (i := 10) (v := ?vq3_10) rfl rfl (by kernel_rfl) (by kernel_rfl) (by kernel_rfl) (fun _ _ _ h => h) (Or.inl ⟨by rfl, ?hyq3_10⟩) (by assumption) ?restq3_10
                case hyq3_10 => (intro w hSw; (try dsimp only at hSw); go_simp; try with_reducible rfl)
                try simp only [Act.put, List.setIfInBounds_toArray, List.set_cons_zero, List.set_cons_succ]
                refine take_of (some 77) (i := 11) (v := ?vq3_11) rfl rfl (by kernel_rfl) (by kernel_rfl) (by kernel_rfl) (fun _ _ _ h => h) (Or.inl ⟨by rfl, ?hyq3_11⟩) (by assumption) ?restq3_11
                case hyq3_11 => (intro w hSw; (try dsimp only at hSw); go_simp; try with_reducible rfl)
                try simp only [Act.put, List.setIfInBounds_toArray, List.set_cons_zero, List.set_cons_succ]
                refine take_of (some 78) (i := 12) (v := ?vq3_12) rfl rfl (by kernel_rfl) (by kernel_rfl) (by kernel_rfl) (fun _ _ _ h => h) (Or.inl ⟨by rfl, ?hyq3_12⟩) (by assumption) ?restq3_12
                case hyq3_12 => (intro w hSw; (try dsimp only at hSw); go_simp; try with_reducible rfl)
                try simp only [Act.put, List.setIfInBounds_toArray, List.set_cons_zero, List.set_cons_succ]
                refine take_of (some 3) (i := 13) (v := ?vq3_13) rfl rfl (by kernel_rfl) (by kernel_rfl) (by kernel_rfl) (fun _ _ _ h => h) (Or.inl ⟨by rfl, ?hyq3_13⟩) (by assumption) ?restq3_13
                case hyq3_13 => (intro w hSw; (try dsimp only at hSw); go_simp; try with_reducible rfl)
                try simp only [Act.put, List.setIfInBounds_toArray, List.set_cons_zero, List.set_cons_succ]
                refine take_of (some 4) (i := 14) (v := ?vq3_14) rfl rfl (by kernel_rfl) (by kernel_rfl) (by kernel_rfl) (fun _ _ _ h => h) (Or.inl ⟨by rfl, ?hyq3_14⟩) (by assumption) ?restq3_14
                case hyq3_14 => (intro w hSw; (try dsimp only at hSw); go_simp; try with_reducible rfl)
                try simp only [Act.put, List.setIfInBounds_toArray, List.set_cons_zero, List.set_cons_succ]
                refine wpAnyH_done (by kernel_rfl) ?_ _
                refine NoPanic.normal ?_
                have HG2 := Lib.hid (show bsK n (tmV a h c xs) g L (best, least) (j + 1) = bs n (tmV a h c xs) g (L ++ [(j : Int)]) (R, r) by rw [HGO.out, HRJ.out])
                go_wp2
                go_roundw
                case rel => exact ⟨j + 1, A7, c7, by omega, by go_num, by rw [HG2.out], by rw [HG2.out], by rw [HG2.out]; exact HW7.out, BJ5.out.trans (HB7.out.mono (by omega)), by rw [HG2.out]; exact hl7⟩
                case measure => simp [intOf]; omega
            · have HH := Lib.hid hh
              have HSK := Lib.hid (show bsK n (tmV a h c xs) g L (best, least) (j + 1) = (R, r) by rw [bsK_has hh, HRJ.out])
              clear hh
              go_wp2_with (go_at_call 73; refine (l1Has_any _ _ _ _ L (j : Int) _ hrd (by unfold maxLen; omega)).mono ?_; rw [HH.out]; rintro e w' ⟨rfl, rfl⟩)
              go_roundw
              case rel => exact ⟨j + 1, A4, c4, by omega, by go_num, by rw [HSK.out], by rw [HSK.out], by rw [HSK.out]; exact WJ.out, BJ.out, by rw [HSK.out]; exact hlj⟩
              case measure => simp [intOf]; omega
          · obtain rfl : j = n := by omega
            have HE := Lib.hid (show bs j (tmV a h c xs) (g + 1) L (best, least) = (R, r) by rw [bs_go HNC.out, HRJ.out])
            go_wp2
            go_ret2
            rw [HE.out]
            exact ⟨A4, c4, rfl, WJ.out, BW.out, hlj⟩
    · have HNC := Lib.hid (show ¬ bsCut n (tmV a h c xs) L (best, least) by rintro ⟨_, h, _⟩; omega)
      clear htm
      go_enter Try.func69, Try.ntmps69
      go_wp2
      go_loopw [3, 4, 59] (fun b q i wr => ∃ (j : Nat) (A4 : Option Addr) (c4 : Nat), j ≤ n ∧ i = .int .i64 j ∧ b = .slice A4 (bsK n (tmV a h c xs) g L (best, least) j).1.length c4 ∧ q = .int .i64 (bsK n (tmV a h c xs) g L (best, least) j).2 ∧ Wr wr b0 A4 (bsK n (tmV a h c xs) g L (best, least) j).1.length (bsK n (tmV a h c xs) g L (best, least) j).1 ∧ Below (w.heap.size + 1) (w.alloc (.cells #[.int .i64 a, .int .i64 h, .int .i64 c] 25)) wr ∧ (bsK n (tmV a h c xs) g L (best, least) j).1.length ≤ 8) (fun _ _ i _ => n - (intOf i).toNat)
      case atStart =>
        refine ⟨0, A2, kc, Nat.zero_le _, rfl, ?_, rfl, ?_, Below.refl _ _, hbl⟩
        · rw [bsK_zero, hlb]
        · rw [bsK_zero, hlb]; exact HWB.out.below (bl_alloc (Below.refl _ _) _)
      case round =>
        obtain ⟨j, A4, c4, hj, rfl, rfl, rfl, hwj, hbj, hlj⟩ := hrel
        obtain ⟨⟨R, r⟩, hR⟩ : ∃ R, bsK n (tmV a h c xs) g L (best, least) j = R := ⟨_, rfl⟩
        have HRJ := Lib.hid hR
        rw [hR] at hwj hlj
        rw [hR]
        dsimp only at hwj hlj ⊢
        clear hR
        have WJ := Lib.hid hwj
        have hbw : Below w.heap.size w wr := (bl_alloc (Below.refl w.heap.size w) (.cells #[.int .i64 a, .int .i64 h, .int .i64 c] 25)).trans (hbj.mono (by omega))
        have hsz : w.heap.size + 1 ≤ wr.heap.size := by have := hbj.size; simpa using this
        have BJ := Lib.hid hbj
        have BW := Lib.hid hbw
        have d0 : wr.cell? ⟨w.heap.size, 0, none⟩ = some (.int .i64 a) := (hbj.cell (p := ⟨w.heap.size, 0, none⟩) (by show w.heap.size < _; omega)).trans (by simp)
        have d1 : wr.cell? ⟨w.heap.size, 1, none⟩ = some (.int .i64 h) := (hbj.cell (p := ⟨w.heap.size, 1, none⟩) (by show w.heap.size < _; omega)).trans (by simp)
        have d2 : wr.cell? ⟨w.heap.size, 2, none⟩ = some (.int .i64 c) := (hbj.cell (p := ⟨w.heap.size, 2, none⟩) (by show w.heap.size < _; omega)).trans (by simp)
        clear hwj hbj hbw
        by_cases hlt : j < n
        · obtain ⟨wo, rfl⟩ : ∃ wo : World, wo = wr := ⟨_, rfl⟩
          have hrx := (HR.out.below BW.out).more BW.out.size
          have HRX := Lib.hid hrx
          have hwo := HW.out.below BW.out
          have HWO := Lib.hid hwo
          have HO := Lib.hid (fun (W : World) (hb : Below wo.heap.size wo W) => l1OwnN_any A1 k k1 L W (hwo.below hb).rd (by omega))
          have hrd := hwo.rd
          clear hrx hwo
          rcases hh : hasI L (j : Int) with _ | _
          · have HH := Lib.hid hh
            have HDN := Lib.hid (diff_snoc HD.out (i := (j : Int)) (by omega) (by omega) hh)
            have HGO := Lib.hid (bsK_new (n := n) (t := tmV a h c xs) (g := g) (s := (best, least)) hh)
            clear hh
            go_wp2_with (go_at_call 73; refine (l1Has_any _ _ _ _ L (j : Int) _ hrd (by unfold maxLen; omega)).mono ?_; rw [HH.out]; rintro e w' ⟨rfl, rfl⟩)
            refine wp_region_noPanic ?_
            refine wp_region_held_drew (S := (fun w' => w'.cell? ⟨w.heap.size, 0, none⟩ = some (.int .i64 a) ∧ w'.cell? ⟨w.heap.size, 1, none⟩ = some (.int .i64 h) ∧ w'.cell? ⟨w.heap.size, 2, none⟩ = some (.int .i64 c))) (by kernel_rfl) (by (try dsimp only); go_keep) (fun hHeld => ?_)
            refine take_of (some 67) (i := 0) (v := ?vq4_0) rfl rfl (by kernel_rfl) (by kernel_rfl) (by kernel_rfl) (fun _ _ _ h => h) (Or.inl ⟨by rfl, ?hyq4_0⟩) (by assumption) ?restq4_0
            case hyq4_0 => (intro w hSw; (try dsimp only at hSw); go_simp; try with_reducible rfl)
            try simp only [Act.put, List.setIfInBounds_toArray, List.set_cons_zero, List.set_cons_succ]
            refine take_of (some 68) (i := 1) (v := ?vq4_1) rfl rfl (by kernel_rfl) (by kernel_rfl) (by kernel_rfl) (fun _ _ _ h => h) (Or.inl ⟨by rfl, ?hyq4_1⟩) (by assumption) ?restq4_1
            case hyq4_1 => (intro w hSw; (try dsimp only at hSw); go_simp; try with_reducible rfl)
            try simp only [Act.put, List.setIfInBounds_toArray, List.set_cons_zero, List.set_cons_succ]
            refine take_of (some 69) (i := 2) (v := ?vq4_2) rfl rfl (by kernel_rfl) (by kernel_rfl) (by kernel_rfl) (fun _ _ _ h => h) (Or.inl ⟨by rfl, ?hyq4_2⟩) (by assumption) ?restq4_2
            case hyq4_2 => (intro w hSw; (try dsimp only at hSw); go_simp; try with_reducible rfl)
            try simp only [Act.put, List.setIfInBounds_toArray, List.set_cons_zero, List.set_cons_succ]
            refine take_of (some 71) (i := 4) (v := ?vq4_4) rfl rfl (by kernel_rfl) (by kernel_rfl) (by kernel_rfl) (fun _ _ _ h => h) (Or.inl ⟨by rfl, ?hyq4_4⟩) (by assumption) ?restq4_4
            case hyq4_4 => (intro w hSw; (try dsimp only at hSw); go_simp; try with_reducible rfl)
            try simp only [Act.put, List.setIfInBounds_toArray, List.set_cons_zero, List.set_cons_succ]
            refine take_of (some 74) (i := 7) (v := ?vq4_7) rfl rfl (by kernel_rfl) (by kernel_rfl) (by kernel_rfl) (fun _ _ _ h => h) (Or.inl ⟨by rfl, ?hyq4_7⟩) (by assumption) ?restq4_7
            case hyq4_7 => (intro w hSw; (try dsimp only at hSw); go_simp; try with_reducible rfl)
            try simp only [Act.put, List.setIfInBounds_toArray, List.set_cons_zero, List.set_cons_succ]
            refine take_of (some 75) (i := 8) (v := ?vq4_8) rfl rfl (by kernel_rfl) (by kernel_rfl) (by kernel_rfl) (fun _ _ _ h => h) (Or.inl ⟨by rfl, ?hyq4_8⟩) (by assumption) ?restq4_8
            case hyq4_8 => (intro w hSw; (try dsimp only at hSw); go_simp; try with_reducible rfl)
            try simp only [Act.put, List.setIfInBounds_toArray, List.set_cons_zero, List.set_cons_succ]
            refine wpAnyH_ready (rs := [3, 5]) (by kernel_rfl) (by simp) ?_
            refine AllReadyH.cons rfl (fun K hK => ?_) (AllReadyH.cons rfl (fun K hK => ?_) AllReadyH.nil)
            · go_simp
              (go_at_call 75; refine (HO.out _ (bl_drew (Below.refl wo.heap.size wo))).mono ?_; rintro e w3 ⟨v1, rfl, ho3⟩; have HO3 := Lib.hid ho3; have hb3 : Below wo.heap.size wo w3 := (bl_drew (Below.refl wo.heap.size wo)).trans (ho3.to_below (Nat.le_refl _) (Nat.le_refl _)); have hs3 := hb3.size; have x0 := (hb3.cell (p := ⟨w.heap.size, 0, none⟩) (by show w.heap.size < _; omega)).trans d0; have x1 := (hb3.cell (p := ⟨w.heap.size, 1, none⟩) (by show w.heap.size < _; omega)).trans d1; have x2 := (hb3.cell (p := ⟨w.heap.size, 2, none⟩) (by show w.heap.size < _; omega)).trans d2; clear ho3 hb3)
              go_wp2_with fail
              refine hK.out _ _ (by (try dsimp only); go_keep) (fun hHeld => ?_)
              clear hK K
              try simp only [Act.put, List.setIfInBounds_toArray, List.set_cons_zero, List.set_cons_succ]
              refine wpAnyH_ready (rs := [5]) (by kernel_rfl) (by simp) ?_
              refine AllReadyH.cons rfl (fun K hK => ?_) AllReadyH.nil
              go_simp
              (skip)
              go_wp2_with fail
              refine hK.out _ _ (by (try dsimp only); go_keep) (fun hHeld => ?_)
              clear hK K
              try simp only [Act.put, List.setIfInBounds_toArray, List.set_cons_zero, List.set_cons_succ]
              refine wpAnyH_ready (rs := [6]) (by kernel_rfl) (by simp) ?_
              refine AllReadyH.cons rfl (fun K hK => ?_) AllReadyH.nil
              rw [if_pos (by rfl)]
              (refine wp_append_own1 _ (.tmp 70) (.tmp 72) 42 (by rfl) wo.heap.size 3 i0 Try.underlying42 hi0 hi1 hi2 hi3 v1 k (L.map (Value.int .i64)) (by rfl) (HO3.out.alloc _).own ⟨w3.heap.size, 0, none⟩ (j : Int) (by rfl) (by simp) (by omega) (by simp; omega) ?_; intro v2 w5 hown5 hg5 hat5; have HN5 := HO3.out.push hown5 hg5 (by simpa using hat5); have hb5 : Below wo.heap.size wo w5 := (bl_drew (Below.refl wo.heap.size wo)).trans (HN5.to_below (Nat.le_refl _) (Nat.le_refl _)); have hown6 : w5.ownsRow wo.heap.size 3 1 v2 (k + 1) ((L ++ [(j : Int)]).map (Value.int .i64)) := (by simpa using hown5); obtain ⟨A5, c5, rfl, hw5⟩ := own_wr hown6; have hc5 := own_cap hown6; have HW5 := Lib.hid hw5; have HB5 := Lib.hid hb5; have hs5 := hb5.size; have y0 := (hb5.cell (p := ⟨w.heap.size, 0, none⟩) (by show w.heap.size < _; omega)).trans d0; have y1 := (hb5.cell (p := ⟨w.heap.size, 1, none⟩) (by show w.heap.size < _; omega)).trans d1; have y2 := (hb5.cell (p := ⟨w.heap.size, 2, none⟩) (by show w.heap.size < _; omega)).trans d2; have BJ5 := Lib.hid (BJ.out.trans (hb5.mono (by omega))); clear hown5 hg5 hat5 HN5 hown6 hw5 hb5 x0 x1 x2)
              refine hK.out _ _ (by (try dsimp only); go_keep) (fun hHeld => ?_)
              clear hK K
              try simp only [Act.put, List.setIfInBounds_toArray, List.set_cons_zero, List.set_cons_succ]
              refine wpAnyH_ready (rs := [9]) (by kernel_rfl) (by simp) ?_
              refine AllReadyH.cons rfl (fun K hK => ?_) AllReadyH.nil
              go_simp
              (go_at_call 69; refine (IH.out A5 (k + 1) c5 (L ++ [(j : Int)]) A4 R.length c4 R r w5 (by rw [List.length_append, List.length_singleton]; omega) ((HRX.out.below HB5.out).more HB5.out.size) (wr_base HW5.out (by omega)) hc5 (WJ.out.below HB5.out) HDN.out hlj (by omega)).mono ?_; rintro e w7 ⟨A7, c7, rfl, hw7, hb7, hl7⟩; have z0 := (hb7.cell (p := ⟨w.heap.size, 0, none⟩) (by show w.heap.size < _; omega)).trans y0; have z1 := (hb7.cell (p := ⟨w.heap.size, 1, none⟩) (by show w.heap.size < _; omega)).trans y1; have z2 := (hb7.cell (p := ⟨w.heap.size, 2, none⟩) (by show w.heap.size < _; omega)).trans y2; have HW7 := Lib.hid hw7; have HB7 := Lib.hid hb7; clear hw7 hb7)
              go_wp2_with fail
              refine hK.out _ _ (by (try dsimp only); go_keep) (fun hHeld => ?_)
              clear hK K
              try simp only [Act.put, List.setIfInBounds_toArray, List.set_cons_zero, List.set_cons_succ]
              refine take_of (some 66) (i := 10) (v := ?vq5_10) rfl rfl (by kernel_rfl) (by kernel_rfl) (by kernel_rfl) (fun _ _ _ h => h) (Or.inl ⟨by rfl, ?hyq5_10⟩) (by assumption) ?restq5_10
              case hyq5_10 => (intro w hSw; (try dsimp only at hSw); go_simp; try with_reducible rfl)
              try simp only [Act.put, List.setIfInBounds_toArray, List.set_cons_zero, List.set_cons_succ]
              refine take_of (some 77) (i := 11) (v := ?vq5_11) rfl rfl (by kernel_rfl) (by kernel_rfl) (by kernel_rfl) (fun _ _ _ h => h) (Or.inl ⟨by rfl, ?hyq5_11⟩) (by assumption) ?restq5_11
              case hyq5_11 => (intro w hSw; (try dsimp only at hSw); go_simp; try with_reducible rfl)
              try simp only [Act.put, List.setIfInBounds_toArray, List.set_cons_zero, List.set_cons_succ]
              refine take_of (some 78) (i := 12) (v := ?vq5_12) rfl rfl (by kernel_rfl) (by kernel_rfl) (by kernel_rfl) (fun _ _ _ h => h) (Or.inl ⟨by rfl, ?hyq5_12⟩) (by assumption) ?restq5_12
              case hyq5_12 => (intro w hSw; (try dsimp only at hSw); go_simp; try with_reducible rfl)
              try simp only [Act.put, List.setIfInBounds_toArray, List.set_cons_zero, List.set_cons_succ]
              refine take_of (some 3) (i := 13) (v := ?vq5_13) rfl rfl (by kernel_rfl) (by kernel_rfl) (by kernel_rfl) (fun _ _ _ h => h) (Or.inl ⟨by rfl, ?hyq5_13⟩) (by assumption) ?restq5_13
              case hyq5_13 => (intro w hSw; (try dsimp only at hSw); go_simp; try with_reducible rfl)
              try simp only [Act.put, List.setIfInBounds_toArray, List.set_cons_zero, List.set_cons_succ]
              refine take_of (some 4) (i := 14) (v := ?vq5_14) rfl rfl (by kernel_rfl) (by kernel_rfl) (by kernel_rfl) (fun _ _ _ h => h) (Or.inl ⟨by rfl, ?hyq5_14⟩) (by assumption) ?restq5_14
              case hyq5_14 => (intro w hSw; (try dsimp only at hSw); go_simp; try with_reducible rfl)
              try simp only [Act.put, List.setIfInBounds_toArray, List.set_cons_zero, List.set_cons_succ]
              refine wpAnyH_done (by kernel_rfl) ?_ _
              refine NoPanic.normal ?_
              have HG2 := Lib.hid (show bsK n (tmV a h c xs) g L (best, least) (j + 1) = bs n (tmV a h c xs) g (L ++ [(j : Int)]) (R, r) by rw [HGO.out, HRJ.out])
              go_wp2
              go_roundw
              case rel => exact ⟨j + 1, A7, c7, by omega, by go_num, by rw [HG2.out], by rw [HG2.out], by rw [HG2.out]; exact HW7.out, BJ5.out.trans (HB7.out.mono (by omega)), by rw [HG2.out]; exact hl7⟩
              case measure => simp [intOf]; omega
            · go_simp
              (skip)
              go_wp2_with fail
              refine hK.out _ _ (by (try dsimp only); go_keep) (fun hHeld => ?_)
              clear hK K
              try simp only [Act.put, List.setIfInBounds_toArray, List.set_cons_zero, List.set_cons_succ]
              refine wpAnyH_ready (rs := [3]) (by kernel_rfl) (by simp) ?_
              refine AllReadyH.cons rfl (fun K hK => ?_) AllReadyH.nil
              go_simp
              (go_at_call 75; refine (HO.out _ (bl_drew (bl_alloc (Below.refl wo.heap.size wo) (.cells #[.int .i64 (j : Int)] 3)))).mono ?_; rintro e w3 ⟨v1, rfl, ho3⟩; have HO3 := Lib.hid ho3; have hb3 : Below wo.heap.size wo w3 := (bl_drew (bl_alloc (Below.refl wo.heap.size wo) (.cells #[.int .i64 (j : Int)] 3))).trans (ho3.to_below (by simp) (by simp)); have hs3 := hb3.size; have x0 := (hb3.cell (p := ⟨w.heap.size, 0, none⟩) (by show w.heap.size < _; omega)).trans d0; have x1 := (hb3.cell (p := ⟨w.heap.size, 1, none⟩) (by show w.heap.size < _; omega)).trans d1; have x2 := (hb3.cell (p := ⟨w.heap.size, 2, none⟩) (by show w.heap.size < _; omega)).trans d2; have hs4 : wo.heap.size + 1 ≤ w3.heap.size := (by have := ho3.gr.size; simpa using this); have hn3 : w3.cell? ⟨wo.heap.size, 0, none⟩ = some (.int .i64 (j : Int)) := ((ho3.to_below (Nat.le_refl _) (Nat.le_refl _)).cell (p := ⟨wo.heap.size, 0, none⟩) (by simp)).trans (by simp); clear ho3 hb3)
              go_wp2_with fail
              refine hK.out _ _ (by (try dsimp only); go_keep) (fun hHeld => ?_)
              clear hK K
              try simp only [Act.put, List.setIfInBounds_toArray, List.set_cons_zero, List.set_cons_succ]
              refine wpAnyH_ready (rs := [6]) (by kernel_rfl) (by simp) ?_
              refine AllReadyH.cons rfl (fun K hK => ?_) AllReadyH.nil
              rw [if_pos (by rfl)]
              (refine wp_append_own1 _ (.tmp 70) (.tmp 72) 42 (by rfl) _ 3 i0 Try.underlying42 hi0 hi1 hi2 hi3 v1 k (L.map (Value.int .i64)) (by rfl) HO3.out.own ⟨wo.heap.size, 0, none⟩ (j : Int) (by rfl) hn3 (by omega) (by simpa using hs4) ?_; intro v2 w5 hown5 hg5 hat5; have HN5 := HO3.out.step hown5 hg5 hat5; have hb5 : Below wo.heap.size wo w5 := (bl_drew (bl_alloc (Below.refl wo.heap.size wo) (.cells #[.int .i64 (j : Int)] 3))).trans (HN5.to_below (by simp) (by simp)); have hown6 : w5.ownsRow wo.heap.size 3 1 v2 (k + 1) ((L ++ [(j : Int)]).map (Value.int .i64)) := own_base (base := wo.heap.size + 1) (by simpa using hown5) (by omega); obtain ⟨A5, c5, rfl, hw5⟩ := own_wr hown6; have hc5 := own_cap hown6; have HW5 := Lib.hid hw5; have HB5 := Lib.hid hb5; have hs5 := hb5.size; have y0 := (hb5.cell (p := ⟨w.heap.size, 0, none⟩) (by show w.heap.size < _; omega)).trans d0; have y1 := (hb5.cell (p := ⟨w.heap.size, 1, none⟩) (by show w.heap.size < _; omega)).trans d1; have y2 := (hb5.cell (p := ⟨w.heap.size, 2, none⟩) (by show w.heap.size < _; omega)).trans d2; have BJ5 := Lib.hid (BJ.out.trans (hb5.mono (by omega))); clear hown5 hg5 hat5 HN5 hown6 hw5 hb5 x0 x1 x2)
              refine hK.out _ _ (by (try dsimp only); go_keep) (fun hHeld => ?_)
              clear hK K
              try simp only [Act.put, List.setIfInBounds_toArray, List.set_cons_zero, List.set_cons_succ]
              refine wpAnyH_ready (rs := [9]) (by kernel_rfl) (by simp) ?_
              refine AllReadyH.cons rfl (fun K hK => ?_) AllReadyH.nil
              go_simp
              (go_at_call 69; refine (IH.out A5 (k + 1) c5 (L ++ [(j : Int)]) A4 R.length c4 R r w5 (by rw [List.length_append, List.length_singleton]; omega) ((HRX.out.below HB5.out).more HB5.out.size) (wr_base HW5.out (by omega)) hc5 (WJ.out.below HB5.out) HDN.out hlj (by omega)).mono ?_; rintro e w7 ⟨A7, c7, rfl, hw7, hb7, hl7⟩; have z0 := (hb7.cell (p := ⟨w.heap.size, 0, none⟩) (by show w.heap.size < _; omega)).trans y0; have z1 := (hb7.cell (p := ⟨w.heap.size, 1, none⟩) (by show w.heap.size < _; omega)).trans y1; have z2 := (hb7.cell (p := ⟨w.heap.size, 2, none⟩) (by show w.heap.size < _; omega)).trans y2; have HW7 := Lib.hid hw7; have HB7 := Lib.hid hb7; clear hw7 hb7)
              go_wp2_with fail
              refine hK.out _ _ (by (try dsimp only); go_keep) (fun hHeld => ?_)
              clear hK K
              try simp only [Act.put, List.setIfInBounds_toArray, List.set_cons_zero, List.set_cons_succ]
              refine take_of (some 66) (i := 10) (v := ?vq6_10) rfl rfl (by kernel_rfl) (by kernel_rfl) (by kernel_rfl) (fun _ _ _ h => h) (Or.inl ⟨by rfl, ?hyq6_10⟩) (by assumption) ?restq6_10
              case hyq6_10 => (intro w hSw; (try dsimp only at hSw); go_simp; try with_reducible rfl)
              try simp only [Act.put, List.setIfInBounds_toArray, List.set_cons_zero, List.set_cons_succ]
              refine take_of (some 77) (i := 11) (v := ?vq6_11) rfl rfl (by kernel_rfl) (by kernel_rfl) (by kernel_rfl) (fun _ _ _ h => h) (Or.inl ⟨by rfl, ?hyq6_11⟩) (by assumption) ?restq6_11
              case hyq6_11 => (intro w hSw; (try dsimp only at hSw); go_simp; try with_reducible rfl)
              try simp only [Act.put, List.setIfInBounds_toArray, List.set_cons_zero, List.set_cons_succ]
              refine take_of (some 78) (i := 12) (v := ?vq6_12) rfl rfl (by kernel_rfl) (by kernel_rfl) (by kernel_rfl) (fun _ _ _ h => h) (Or.inl ⟨by rfl, ?hyq6_12⟩) (by assumption) ?restq6_12
              case hyq6_12 => (intro w hSw; (try dsimp only at hSw); go_simp; try with_reducible rfl)
              try simp only [Act.put, List.setIfInBounds_toArray, List.set_cons_zero, List.set_cons_succ]
              refine take_of (some 3) (i := 13) (v := ?vq6_13) rfl rfl (by kernel_rfl) (by kernel_rfl) (by kernel_rfl) (fun _ _ _ h => h) (Or.inl ⟨by rfl, ?hyq6_13⟩) (by assumption) ?restq6_13
              case hyq6_13 => (intro w hSw; (try dsimp only at hSw); go_simp; try with_reducible rfl)
              try simp only [Act.put, List.setIfInBounds_toArray, List.set_cons_zero, List.set_cons_succ]
              refine take_of (some 4) (i := 14) (v := ?vq6_14) rfl rfl (by kernel_rfl) (by kernel_rfl) (by kernel_rfl) (fun _ _ _ h => h) (Or.inl ⟨by rfl, ?hyq6_14⟩) (by assumption) ?restq6_14
              case hyq6_14 => (intro w hSw; (try dsimp only at hSw); go_simp; try with_reducible rfl)
              try simp only [Act.put, List.setIfInBounds_toArray, List.set_cons_zero, List.set_cons_succ]
              refine wpAnyH_done (by kernel_rfl) ?_ _
              refine NoPanic.normal ?_
              have HG2 := Lib.hid (show bsK n (tmV a h c xs) g L (best, least) (j + 1) = bs n (tmV a h c xs) g (L ++ [(j : Int)]) (R, r) by rw [HGO.out, HRJ.out])
              go_wp2
              go_roundw
              case rel => exact ⟨j + 1, A7, c7, by omega, by go_num, by rw [HG2.out], by rw [HG2.out], by rw [HG2.out]; exact HW7.out, BJ5.out.trans (HB7.out.mono (by omega)), by rw [HG2.out]; exact hl7⟩
              case measure => simp [intOf]; omega
          · have HH := Lib.hid hh
            have HSK := Lib.hid (show bsK n (tmV a h c xs) g L (best, least) (j + 1) = (R, r) by rw [bsK_has hh, HRJ.out])
            clear hh
            go_wp2_with (go_at_call 73; refine (l1Has_any _ _ _ _ L (j : Int) _ hrd (by unfold maxLen; omega)).mono ?_; rw [HH.out]; rintro e w' ⟨rfl, rfl⟩)
            go_roundw
            case rel => exact ⟨j + 1, A4, c4, by omega, by go_num, by rw [HSK.out], by rw [HSK.out], by rw [HSK.out]; exact WJ.out, BJ.out, by rw [HSK.out]; exact hlj⟩
            case measure => simp [intOf]; omega
        · obtain rfl : j = n := by omega
          have HE := Lib.hid (show bs j (tmV a h c xs) (g + 1) L (best, least) = (R, r) by rw [bs_go HNC.out, HRJ.out])
          go_wp2
          go_ret2
          rw [HE.out]
          exact ⟨A4, c4, rfl, WJ.out, BW.out, hlj⟩
  · have hbf : ((kb : Int) == (n : Int)) = false := by simp; omega
    have HNC := Lib.hid (show ¬ bsCut n (tmV a h c xs) L (best, least) by rintro ⟨h, _, _⟩; dsimp only at h; omega)
    clear htm
    go_enter Try.func69, Try.ntmps69
    go_wp2
    go_loopw [3, 4, 59] (fun b q i wr => ∃ (j : Nat) (A4 : Option Addr) (c4 : Nat), j ≤ n ∧ i = .int .i64 j ∧ b = .slice A4 (bsK n (tmV a h c xs) g L (best, least) j).1.length c4 ∧ q = .int .i64 (bsK n (tmV a h c xs) g L (best, least) j).2 ∧ Wr wr b0 A4 (bsK n (tmV a h c xs) g L (best, least) j).1.length (bsK n (tmV a h c xs) g L (best, least) j).1 ∧ Below (w.heap.size + 1) (w.alloc (.cells #[.int .i64 a, .int .i64 h, .int .i64 c] 25)) wr ∧ (bsK n (tmV a h c xs) g L (best, least) j).1.length ≤ 8) (fun _ _ i _ => n - (intOf i).toNat)
    case atStart =>
      refine ⟨0, A2, kc, Nat.zero_le _, rfl, ?_, rfl, ?_, Below.refl _ _, hbl⟩
      · rw [bsK_zero, hlb]
      · rw [bsK_zero, hlb]; exact HWB.out.below (bl_alloc (Below.refl _ _) _)
    case round =>
      obtain ⟨j, A4, c4, hj, rfl, rfl, rfl, hwj, hbj, hlj⟩ := hrel
      obtain ⟨⟨R, r⟩, hR⟩ : ∃ R, bsK n (tmV a h c xs) g L (best, least) j = R := ⟨_, rfl⟩
      have HRJ := Lib.hid hR
      rw [hR] at hwj hlj
      rw [hR]
      dsimp only at hwj hlj ⊢
      clear hR
      have WJ := Lib.hid hwj
      have hbw : Below w.heap.size w wr := (bl_alloc (Below.refl w.heap.size w) (.cells #[.int .i64 a, .int .i64 h, .int .i64 c] 25)).trans (hbj.mono (by omega))
      have hsz : w.heap.size + 1 ≤ wr.heap.size := by have := hbj.size; simpa using this
      have BJ := Lib.hid hbj
      have BW := Lib.hid hbw
      have d0 : wr.cell? ⟨w.heap.size, 0, none⟩ = some (.int .i64 a) := (hbj.cell (p := ⟨w.heap.size, 0, none⟩) (by show w.heap.size < _; omega)).trans (by simp)
      have d1 : wr.cell? ⟨w.heap.size, 1, none⟩ = some (.int .i64 h) := (hbj.cell (p := ⟨w.heap.size, 1, none⟩) (by show w.heap.size < _; omega)).trans (by simp)
      have d2 : wr.cell? ⟨w.heap.size, 2, none⟩ = some (.int .i64 c) := (hbj.cell (p := ⟨w.heap.size, 2, none⟩) (by show w.heap.size < _; omega)).trans (by simp)
      clear hwj hbj hbw
      by_cases hlt : j < n
      · obtain ⟨wo, rfl⟩ : ∃ wo : World, wo = wr := ⟨_, rfl⟩
        have hrx := (HR.out.below BW.out).more BW.out.size
        have HRX := Lib.hid hrx
        have hwo := HW.out.below BW.out
        have HWO := Lib.hid hwo
        have HO := Lib.hid (fun (W : World) (hb : Below wo.heap.size wo W) => l1OwnN_any A1 k k1 L W (hwo.below hb).rd (by omega))
        have hrd := hwo.rd
        clear hrx hwo
        rcases hh : hasI L (j : Int) with _ | _
        · have HH := Lib.hid hh
          have HDN := Lib.hid (diff_snoc HD.out (i := (j : Int)) (by omega) (by omega) hh)
          have HGO := Lib.hid (bsK_new (n := n) (t := tmV a h c xs) (g := g) (s := (best, least)) hh)
          clear hh
          go_wp2_with (go_at_call 73; refine (l1Has_any _ _ _ _ L (j : Int) _ hrd (by unfold maxLen; omega)).mono ?_; rw [HH.out]; rintro e w' ⟨rfl, rfl⟩)
          refine wp_region_noPanic ?_
          refine wp_region_held_drew (S := (fun w' => w'.cell? ⟨w.heap.size, 0, none⟩ = some (.int .i64 a) ∧ w'.cell? ⟨w.heap.size, 1, none⟩ = some (.int .i64 h) ∧ w'.cell? ⟨w.heap.size, 2, none⟩ = some (.int .i64 c))) (by kernel_rfl) (by (try dsimp only); go_keep) (fun hHeld => ?_)
          refine take_of (some 67) (i := 0) (v := ?vq7_0) rfl rfl (by kernel_rfl) (by kernel_rfl) (by kernel_rfl) (fun _ _ _ h => h) (Or.inl ⟨by rfl, ?hyq7_0⟩) (by assumption) ?restq7_0
          case hyq7_0 => (intro w hSw; (try dsimp only at hSw); go_simp; try with_reducible rfl)
          try simp only [Act.put, List.setIfInBounds_toArray, List.set_cons_zero, List.set_cons_succ]
          refine take_of (some 68) (i := 1) (v := ?vq7_1) rfl rfl (by kernel_rfl) (by kernel_rfl) (by kernel_rfl) (fun _ _ _ h => h) (Or.inl ⟨by rfl, ?hyq7_1⟩) (by assumption) ?restq7_1
          case hyq7_1 => (intro w hSw; (try dsimp only at hSw); go_simp; try with_reducible rfl)
          try simp only [Act.put, List.setIfInBounds_toArray, List.set_cons_zero, List.set_cons_succ]
          refine take_of (some 69) (i := 2) (v := ?vq7_2) rfl rfl (by kernel_rfl) (by kernel_rfl) (by kernel_rfl) (fun _ _ _ h => h) (Or.inl ⟨by rfl, ?hyq7_2⟩) (by assumption) ?restq7_2
          case hyq7_2 => (intro w hSw; (try dsimp only at hSw); go_simp; try with_reducible rfl)
          try simp only [Act.put, List.setIfInBounds_toArray, List.set_cons_zero, List.set_cons_succ]
          refine take_of (some 71) (i := 4) (v := ?vq7_4) rfl rfl (by kernel_rfl) (by kernel_rfl) (by kernel_rfl) (fun _ _ _ h => h) (Or.inl ⟨by rfl, ?hyq7_4⟩) (by assumption) ?restq7_4
          case hyq7_4 => (intro w hSw; (try dsimp only at hSw); go_simp; try with_reducible rfl)
          try simp only [Act.put, List.setIfInBounds_toArray, List.set_cons_zero, List.set_cons_succ]
          refine take_of (some 74) (i := 7) (v := ?vq7_7) rfl rfl (by kernel_rfl) (by kernel_rfl) (by kernel_rfl) (fun _ _ _ h => h) (Or.inl ⟨by rfl, ?hyq7_7⟩) (by assumption) ?restq7_7
          case hyq7_7 => (intro w hSw; (try dsimp only at hSw); go_simp; try with_reducible rfl)
          try simp only [Act.put, List.setIfInBounds_toArray, List.set_cons_zero, List.set_cons_succ]
          refine take_of (some 75) (i := 8) (v := ?vq7_8) rfl rfl (by kernel_rfl) (by kernel_rfl) (by kernel_rfl) (fun _ _ _ h => h) (Or.inl ⟨by rfl, ?hyq7_8⟩) (by assumption) ?restq7_8
          case hyq7_8 => (intro w hSw; (try dsimp only at hSw); go_simp; try with_reducible rfl)
          try simp only [Act.put, List.setIfInBounds_toArray, List.set_cons_zero, List.set_cons_succ]
          refine wpAnyH_ready (rs := [3, 5]) (by kernel_rfl) (by simp) ?_
          refine AllReadyH.cons rfl (fun K hK => ?_) (AllReadyH.cons rfl (fun K hK => ?_) AllReadyH.nil)
          · go_simp
            (go_at_call 75; refine (HO.out _ (bl_drew (Below.refl wo.heap.size wo))).mono ?_; rintro e w3 ⟨v1, rfl, ho3⟩; have HO3 := Lib.hid ho3; have hb3 : Below wo.heap.size wo w3 := (bl_drew (Below.refl wo.heap.size wo)).trans (ho3.to_below (Nat.le_refl _) (Nat.le_refl _)); have hs3 := hb3.size; have x0 := (hb3.cell (p := ⟨w.heap.size, 0, none⟩) (by show w.heap.size < _; omega)).trans d0; have x1 := (hb3.cell (p := ⟨w.heap.size, 1, none⟩) (by show w.heap.size < _; omega)).trans d1; have x2 := (hb3.cell (p := ⟨w.heap.size, 2, none⟩) (by show w.heap.size < _; omega)).trans d2; clear ho3 hb3)
            go_wp2_with fail
            refine hK.out _ _ (by (try dsimp only); go_keep) (fun hHeld => ?_)
            clear hK K
            try simp only [Act.put, List.setIfInBounds_toArray, List.set_cons_zero, List.set_cons_succ]
            refine wpAnyH_ready (rs := [5]) (by kernel_rfl) (by simp) ?_
            refine AllReadyH.cons rfl (fun K hK => ?_) AllReadyH.nil
            go_simp
            (skip)
            go_wp2_with fail
            refine hK.out _ _ (by (try dsimp only); go_keep) (fun hHeld => ?_)
            clear hK K
            try simp only [Act.put, List.setIfInBounds_toArray, List.set_cons_zero, List.set_cons_succ]
            refine wpAnyH_ready (rs := [6]) (by kernel_rfl) (by simp) ?_
            refine AllReadyH.cons rfl (fun K hK => ?_) AllReadyH.nil
            rw [if_pos (by rfl)]
            (refine wp_append_own1 _ (.tmp 70) (.tmp 72) 42 (by rfl) wo.heap.size 3 i0 Try.underlying42 hi0 hi1 hi2 hi3 v1 k (L.map (Value.int .i64)) (by rfl) (HO3.out.alloc _).own ⟨w3.heap.size, 0, none⟩ (j : Int) (by rfl) (by simp) (by omega) (by simp; omega) ?_; intro v2 w5 hown5 hg5 hat5; have HN5 := HO3.out.push hown5 hg5 (by simpa using hat5); have hb5 : Below wo.heap.size wo w5 := (bl_drew (Below.refl wo.heap.size wo)).trans (HN5.to_below (Nat.le_refl _) (Nat.le_refl _)); have hown6 : w5.ownsRow wo.heap.size 3 1 v2 (k + 1) ((L ++ [(j : Int)]).map (Value.int .i64)) := (by simpa using hown5); obtain ⟨A5, c5, rfl, hw5⟩ := own_wr hown6; have hc5 := own_cap hown6; have HW5 := Lib.hid hw5; have HB5 := Lib.hid hb5; have hs5 := hb5.size; have y0 := (hb5.cell (p := ⟨w.heap.size, 0, none⟩) (by show w.heap.size < _; omega)).trans d0; have y1 := (hb5.cell (p := ⟨w.heap.size, 1, none⟩) (by show w.heap.size < _; omega)).trans d1; have y2 := (hb5.cell (p := ⟨w.heap.size, 2, none⟩) (by show w.heap.size < _; omega)).trans d2; have BJ5 := Lib.hid (BJ.out.trans (hb5.mono (by omega))); clear hown5 hg5 hat5 HN5 hown6 hw5 hb5 x0 x1 x2)
            refine hK.out _ _ (by (try dsimp only); go_keep) (fun hHeld => ?_)
            clear hK K
            try simp only [Act.put, List.setIfInBounds_toArray, List.set_cons_zero, List.set_cons_succ]
            refine wpAnyH_ready (rs := [9]) (by kernel_rfl) (by simp) ?_
            refine AllReadyH.cons rfl (fun K hK => ?_) AllReadyH.nil
            go_simp
            (go_at_call 69; refine (IH.out A5 (k + 1) c5 (L ++ [(j : Int)]) A4 R.length c4 R r w5 (by rw [List.length_append, List.length_singleton]; omega) ((HRX.out.below HB5.out).more HB5.out.size) (wr_base HW5.out (by omega)) hc5 (WJ.out.below HB5.out) HDN.out hlj (by omega)).mono ?_; rintro e w7 ⟨A7, c7, rfl, hw7, hb7, hl7⟩; have z0 := (hb7.cell (p := ⟨w.heap.size, 0, none⟩) (by show w.heap.size < _; omega)).trans y0; have z1 := (hb7.cell (p := ⟨w.heap.size, 1, none⟩) (by show w.heap.size < _; omega)).trans y1; have z2 := (hb7.cell (p := ⟨w.heap.size, 2, none⟩) (by show w.heap.size < _; omega)).trans y2; have HW7 := Lib.hid hw7; have HB7 := Lib.hid hb7; clear hw7 hb7)
            go_wp2_with fail
            refine hK.out _ _ (by (try dsimp only); go_keep) (fun hHeld => ?_)
            clear hK K
            try simp only [Act.put, List.setIfInBounds_toArray, List.set_cons_zero, List.set_cons_succ]
            refine take_of (some 66) (i := 10) (v := ?vq8_10) rfl rfl (by kernel_rfl) (by kernel_rfl) (by kernel_rfl) (fun _ _ _ h => h) (Or.inl ⟨by rfl, ?hyq8_10⟩) (by assumption) ?restq8_10
            case hyq8_10 => (intro w hSw; (try dsimp only at hSw); go_simp; try with_reducible rfl)
            try simp only [Act.put, List.setIfInBounds_toArray, List.set_cons_zero, List.set_cons_succ]
            refine take_of (some 77) (i := 11) (v := ?vq8_11) rfl rfl (by kernel_rfl) (by kernel_rfl) (by kernel_rfl) (fun _ _ _ h => h) (Or.inl ⟨by rfl, ?hyq8_11⟩) (by assumption) ?restq8_11
            case hyq8_11 => (intro w hSw; (try dsimp only at hSw); go_simp; try with_reducible rfl)
            try simp only [Act.put, List.setIfInBounds_toArray, List.set_cons_zero, List.set_cons_succ]
            refine take_of (some 78) (i := 12) (v := ?vq8_12) rfl rfl (by kernel_rfl) (by kernel_rfl) (by kernel_rfl) (fun _ _ _ h => h) (Or.inl ⟨by rfl, ?hyq8_12⟩) (by assumption) ?restq8_12
            case hyq8_12 => (intro w hSw; (try dsimp only at hSw); go_simp; try with_reducible rfl)
            try simp only [Act.put, List.setIfInBounds_toArray, List.set_cons_zero, List.set_cons_succ]
            refine take_of (some 3) (i := 13) (v := ?vq8_13) rfl rfl (by kernel_rfl) (by kernel_rfl) (by kernel_rfl) (fun _ _ _ h => h) (Or.inl ⟨by rfl, ?hyq8_13⟩) (by assumption) ?restq8_13
            case hyq8_13 => (intro w hSw; (try dsimp only at hSw); go_simp; try with_reducible rfl)
            try simp only [Act.put, List.setIfInBounds_toArray, List.set_cons_zero, List.set_cons_succ]
            refine take_of (some 4) (i := 14) (v := ?vq8_14) rfl rfl (by kernel_rfl) (by kernel_rfl) (by kernel_rfl) (fun _ _ _ h => h) (Or.inl ⟨by rfl, ?hyq8_14⟩) (by assumption) ?restq8_14
            case hyq8_14 => (intro w hSw; (try dsimp only at hSw); go_simp; try with_reducible rfl)
            try simp only [Act.put, List.setIfInBounds_toArray, List.set_cons_zero, List.set_cons_succ]
            refine wpAnyH_done (by kernel_rfl) ?_ _
            refine NoPanic.normal ?_
            have HG2 := Lib.hid (show bsK n (tmV a h c xs) g L (best, least) (j + 1) = bs n (tmV a h c xs) g (L ++ [(j : Int)]) (R, r) by rw [HGO.out, HRJ.out])
            go_wp2
            go_roundw
            case rel => exact ⟨j + 1, A7, c7, by omega, by go_num, by rw [HG2.out], by rw [HG2.out], by rw [HG2.out]; exact HW7.out, BJ5.out.trans (HB7.out.mono (by omega)), by rw [HG2.out]; exact hl7⟩
            case measure => simp [intOf]; omega
          · go_simp
            (skip)
            go_wp2_with fail
            refine hK.out _ _ (by (try dsimp only); go_keep) (fun hHeld => ?_)
            clear hK K
            try simp only [Act.put, List.setIfInBounds_toArray, List.set_cons_zero, List.set_cons_succ]
            refine wpAnyH_ready (rs := [3]) (by kernel_rfl) (by simp) ?_
            refine AllReadyH.cons rfl (fun K hK => ?_) AllReadyH.nil
            go_simp
            (go_at_call 75; refine (HO.out _ (bl_drew (bl_alloc (Below.refl wo.heap.size wo) (.cells #[.int .i64 (j : Int)] 3)))).mono ?_; rintro e w3 ⟨v1, rfl, ho3⟩; have HO3 := Lib.hid ho3; have hb3 : Below wo.heap.size wo w3 := (bl_drew (bl_alloc (Below.refl wo.heap.size wo) (.cells #[.int .i64 (j : Int)] 3))).trans (ho3.to_below (by simp) (by simp)); have hs3 := hb3.size; have x0 := (hb3.cell (p := ⟨w.heap.size, 0, none⟩) (by show w.heap.size < _; omega)).trans d0; have x1 := (hb3.cell (p := ⟨w.heap.size, 1, none⟩) (by show w.heap.size < _; omega)).trans d1; have x2 := (hb3.cell (p := ⟨w.heap.size, 2, none⟩) (by show w.heap.size < _; omega)).trans d2; have hs4 : wo.heap.size + 1 ≤ w3.heap.size := (by have := ho3.gr.size; simpa using this); have hn3 : w3.cell? ⟨wo.heap.size, 0, none⟩ = some (.int .i64 (j : Int)) := ((ho3.to_below (Nat.le_refl _) (Nat.le_refl _)).cell (p := ⟨wo.heap.size, 0, none⟩) (by simp)).trans (by simp); clear ho3 hb3)
            go_wp2_with fail
            refine hK.out _ _ (by (try dsimp only); go_keep) (fun hHeld => ?_)
            clear hK K
            try simp only [Act.put, List.setIfInBounds_toArray, List.set_cons_zero, List.set_cons_succ]
            refine wpAnyH_ready (rs := [6]) (by kernel_rfl) (by simp) ?_
            refine AllReadyH.cons rfl (fun K hK => ?_) AllReadyH.nil
            rw [if_pos (by rfl)]
            (refine wp_append_own1 _ (.tmp 70) (.tmp 72) 42 (by rfl) _ 3 i0 Try.underlying42 hi0 hi1 hi2 hi3 v1 k (L.map (Value.int .i64)) (by rfl) HO3.out.own ⟨wo.heap.size, 0, none⟩ (j : Int) (by rfl) hn3 (by omega) (by simpa using hs4) ?_; intro v2 w5 hown5 hg5 hat5; have HN5 := HO3.out.step hown5 hg5 hat5; have hb5 : Below wo.heap.size wo w5 := (bl_drew (bl_alloc (Below.refl wo.heap.size wo) (.cells #[.int .i64 (j : Int)] 3))).trans (HN5.to_below (by simp) (by simp)); have hown6 : w5.ownsRow wo.heap.size 3 1 v2 (k + 1) ((L ++ [(j : Int)]).map (Value.int .i64)) := own_base (base := wo.heap.size + 1) (by simpa using hown5) (by omega); obtain ⟨A5, c5, rfl, hw5⟩ := own_wr hown6; have hc5 := own_cap hown6; have HW5 := Lib.hid hw5; have HB5 := Lib.hid hb5; have hs5 := hb5.size; have y0 := (hb5.cell (p := ⟨w.heap.size, 0, none⟩) (by show w.heap.size < _; omega)).trans d0; have y1 := (hb5.cell (p := ⟨w.heap.size, 1, none⟩) (by show w.heap.size < _; omega)).trans d1; have y2 := (hb5.cell (p := ⟨w.heap.size, 2, none⟩) (by show w.heap.size < _; omega)).trans d2; have BJ5 := Lib.hid (BJ.out.trans (hb5.mono (by omega))); clear hown5 hg5 hat5 HN5 hown6 hw5 hb5 x0 x1 x2)
            refine hK.out _ _ (by (try dsimp only); go_keep) (fun hHeld => ?_)
            clear hK K
            try simp only [Act.put, List.setIfInBounds_toArray, List.set_cons_zero, List.set_cons_succ]
            refine wpAnyH_ready (rs := [9]) (by kernel_rfl) (by simp) ?_
            refine AllReadyH.cons rfl (fun K hK => ?_) AllReadyH.nil
            go_simp
            (go_at_call 69; refine (IH.out A5 (k + 1) c5 (L ++ [(j : Int)]) A4 R.length c4 R r w5 (by rw [List.length_append, List.length_singleton]; omega) ((HRX.out.below HB5.out).more HB5.out.size) (wr_base HW5.out (by omega)) hc5 (WJ.out.below HB5.out) HDN.out hlj (by omega)).mono ?_; rintro e w7 ⟨A7, c7, rfl, hw7, hb7, hl7⟩; have z0 := (hb7.cell (p := ⟨w.heap.size, 0, none⟩) (by show w.heap.size < _; omega)).trans y0; have z1 := (hb7.cell (p := ⟨w.heap.size, 1, none⟩) (by show w.heap.size < _; omega)).trans y1; have z2 := (hb7.cell (p := ⟨w.heap.size, 2, none⟩) (by show w.heap.size < _; omega)).trans y2; have HW7 := Lib.hid hw7; have HB7 := Lib.hid hb7; clear hw7 hb7)
            go_wp2_with fail
            refine hK.out _ _ (by (try dsimp only); go_keep) (fun hHeld => ?_)
            clear hK K
            try simp only [Act.put, List.setIfInBounds_toArray, List.set_cons_zero, List.set_cons_succ]
            refine take_of (some 66) (i := 10) (v := ?vq9_10) rfl rfl (by kernel_rfl) (by kernel_rfl) (by kernel_rfl) (fun _ _ _ h => h) (Or.inl ⟨by rfl, ?hyq9_10⟩) (by assumption) ?restq9_10
            case hyq9_10 => (intro w hSw; (try dsimp only at hSw); go_simp; try with_reducible rfl)
            try simp only [Act.put, List.setIfInBounds_toArray, List.set_cons_zero, List.set_cons_succ]
            refine take_of (some 77) (i := 11) (v := ?vq9_11) rfl rfl (by kernel_rfl) (by kernel_rfl) (by kernel_rfl) (fun _ _ _ h => h) (Or.inl ⟨by rfl, ?hyq9_11⟩) (by assumption) ?restq9_11
            case hyq9_11 => (intro w hSw; (try dsimp only at hSw); go_simp; try with_reducible rfl)
            try simp only [Act.put, List.setIfInBounds_toArray, List.set_cons_zero, List.set_cons_succ]
            refine take_of (some 78) (i := 12) (v := ?vq9_12) rfl rfl (by kernel_rfl) (by kernel_rfl) (by kernel_rfl) (fun _ _ _ h => h) (Or.inl ⟨by rfl, ?hyq9_12⟩) (by assumption) ?restq9_12
            case hyq9_12 => (intro w hSw; (try dsimp only at hSw); go_simp; try with_reducible rfl)
            try simp only [Act.put, List.setIfInBounds_toArray, List.set_cons_zero, List.set_cons_succ]
            refine take_of (some 3) (i := 13) (v := ?vq9_13) rfl rfl (by kernel_rfl) (by kernel_rfl) (by kernel_rfl) (fun _ _ _ h => h) (Or.inl ⟨by rfl, ?hyq9_13⟩) (by assumption) ?restq9_13
            case hyq9_13 => (intro w hSw; (try dsimp only at hSw); go_simp; try with_reducible rfl)
            try simp only [Act.put, List.setIfInBounds_toArray, List.set_cons_zero, List.set_cons_succ]
            refine take_of (some 4) (i := 14) (v := ?vq9_14) rfl rfl (by kernel_rfl) (by kernel_rfl) (by kernel_rfl) (fun _ _ _ h => h) (Or.inl ⟨by rfl, ?hyq9_14⟩) (by assumption) ?restq9_14
            case hyq9_14 => (intro w hSw; (try dsimp only at hSw); go_simp; try with_reducible rfl)
            try simp only [Act.put, List.setIfInBounds_toArray, List.set_cons_zero, List.set_cons_succ]
            refine wpAnyH_done (by kernel_rfl) ?_ _
            refine NoPanic.normal ?_
            have HG2 := Lib.hid (show bsK n (tmV a h c xs) g L (best, least) (j + 1) = bs n (tmV a h c xs) g (L ++ [(j : Int)]) (R, r) by rw [HGO.out, HRJ.out])
            go_wp2
            go_roundw
            case rel => exact ⟨j + 1, A7, c7, by omega, by go_num, by rw [HG2.out], by rw [HG2.out], by rw [HG2.out]; exact HW7.out, BJ5.out.trans (HB7.out.mono (by omega)), by rw [HG2.out]; exact hl7⟩
            case measure => simp [intOf]; omega
        · have HH := Lib.hid hh
          have HSK := Lib.hid (show bsK n (tmV a h c xs) g L (best, least) (j + 1) = (R, r) by rw [bsK_has hh, HRJ.out])
          clear hh
          go_wp2_with (go_at_call 73; refine (l1Has_any _ _ _ _ L (j : Int) _ hrd (by unfold maxLen; omega)).mono ?_; rw [HH.out]; rintro e w' ⟨rfl, rfl⟩)
          go_roundw
          case rel => exact ⟨j + 1, A4, c4, by omega, by go_num, by rw [HSK.out], by rw [HSK.out], by rw [HSK.out]; exact WJ.out, BJ.out, by rw [HSK.out]; exact hlj⟩
          case measure => simp [intOf]; omega
      · obtain rfl : j = n := by omega
        have HE := Lib.hid (show bs j (tmV a h c xs) (g + 1) L (best, least) = (R, r) by rw [bs_go HNC.out, HRJ.out])
        go_wp2
        go_ret2
        rw [HE.out]
        exact ⟨A4, c4, rfl, WJ.out, BW.out, hlj⟩
theorem csBest_any (a h c : Int) (A : Option Addr) (n cp : Nat) (xs : List Cst) (b0 : Nat) (hn : n ≤ 8) (hxl : xs.length = n) (hm : machB a h c = true) (hx : castsB xs = true) : ∀ f, BsAll a h c A n cp xs b0 f := by
  intro f
  induction f with
  | zero => exact csBest_zero a h c A n cp xs b0 hn hxl hm hx
  | succ g ih => exact csBest_step a h c A n cp xs b0 hn hxl hm hx g ih
end Go.Proofs.Ytabmhmbmdegoaaa
