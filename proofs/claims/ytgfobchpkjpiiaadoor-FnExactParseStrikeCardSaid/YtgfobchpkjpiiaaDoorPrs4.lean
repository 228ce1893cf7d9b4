/-
  A melt parsed: the specification.
-/
import Derived.Test.YtgfobchpkjpiiaaDoorPrs3
import Derived.Test.YtgfobchpkjpiiaaDoorTxt3
namespace Go.Proofs.YtgfobchpkjpiiaaDoor
open Go.RowKit
set_option linter.unusedVariables false
attribute [local go_sem ↓] Go.wp_at_zero Go.wp_at_succ

/-- a melt and a bool -/
def mlt (p q r : Int) : (Int × Int × Int) × Bool := if meltB p q r then ((p, q, r), true) else ((0, 0, 0), false)
def RetM (v : (Int × Int × Int) × Bool) (w : World) (e : Ending) (w' : World) : Prop := e = .returned (.tuple #[.agg #[.int .i64 v.1.1, .int .i64 v.1.2.1, .int .i64 v.1.2.2], .bool v.2]) ∧ Below w.heap.size w w'
theorem mlt_no {p q r : Int} (h : meltB p q r = false) : mlt p q r = ((0, 0, 0), false) := by unfold mlt; rw [if_neg (by rw [h]; decide)]
theorem mlt_yes {p q r : Int} (h : meltB p q r = true) : mlt p q r = ((p, q, r), true) := by unfold mlt; rw [if_pos h]
set_option maxHeartbeats 2000000 in
theorem meIf_any (p q r : Int) (w : World) : Calls Tryd.prog 64 #[.agg #[.int .i64 p, .int .i64 q, .int .i64 r]] w (RetM (mlt p q r) w) := by
  rcases h : meltB p q r with _ | _
  · rw [mlt_no h]
    have HH := Lib.hid h
    clear h
    go_enter Tryd.func64, Tryd.ntmps64
    go_wp2_with fail
    refine (meGood_any _ _ _ _).mono ?_
    rw [HH.out]
    rintro e w' ⟨rfl, hb⟩
    obtain ⟨hc0, hf0, hz0⟩ := bl_at hb (k := w.heap.size) (by first | assumption | (simp; done) | (simp; omega)); obtain ⟨hc1, hf1, hz1⟩ := bl_at hb (k := w.heap.size + 1) (by first | assumption | (simp; done) | (simp; omega))
    have HB := Lib.hid (show Below w.heap.size w w' from by repeat (first | (with_reducible exact Below.refl _ _) | (with_reducible assumption) | (with_reducible refine bl_alloc ?_ _) | (with_reducible refine bl_drew ?_) | (with_reducible refine bl_drewN ?_ _) | ((with_reducible refine bl_set ?_ ?hb _); (case hb => first | (simp; done) | omega | (simp; omega))) | (with_reducible refine bl_trans ?_ (by assumption))))
    have hz1 : w.heap.size < w'.heap.size := by omega
    have hz2 : w.heap.size + 1 < w'.heap.size := by omega
    clear hb
    go_wp2
    refine bodyPost_ret (v := .tuple #[.agg #[.int .i64 0, .int .i64 0, .int .i64 0], .bool false]) (by simp [results, Tryd.results64, go_sem, *]) rfl ⟨rfl, ?_⟩
    have := HB.out
    exact by repeat (first | (with_reducible exact Below.refl _ _) | (with_reducible assumption) | (with_reducible refine bl_alloc ?_ _) | (with_reducible refine bl_drew ?_) | (with_reducible refine bl_drewN ?_ _) | ((with_reducible refine bl_set ?_ ?hb _); (case hb => first | (simp; done) | omega | (simp; omega))) | (with_reducible refine bl_trans ?_ (by assumption)))
  · rw [mlt_yes h]
    have HH := Lib.hid h
    clear h
    go_enter Tryd.func64, Tryd.ntmps64
    go_wp2_with fail
    refine (meGood_any _ _ _ _).mono ?_
    rw [HH.out]
    rintro e w' ⟨rfl, hb⟩
    obtain ⟨hc0, hf0, hz0⟩ := bl_at hb (k := w.heap.size) (by first | assumption | (simp; done) | (simp; omega)); obtain ⟨hc1, hf1, hz1⟩ := bl_at hb (k := w.heap.size + 1) (by first | assumption | (simp; done) | (simp; omega))
    have HB := Lib.hid (show Below w.heap.size w w' from by repeat (first | (with_reducible exact Below.refl _ _) | (with_reducible assumption) | (with_reducible refine bl_alloc ?_ _) | (with_reducible refine bl_drew ?_) | (with_reducible refine bl_drewN ?_ _) | ((with_reducible refine bl_set ?_ ?hb _); (case hb => first | (simp; done) | omega | (simp; omega))) | (with_reducible refine bl_trans ?_ (by assumption))))
    have hz1 : w.heap.size < w'.heap.size := by omega
    have hz2 : w.heap.size + 1 < w'.heap.size := by omega
    clear hb
    go_wp2
    refine bodyPost_ret (v := .tuple #[.agg #[.int .i64 p, .int .i64 q, .int .i64 r], .bool true]) (by simp [results, Tryd.results64, go_sem, *]) rfl ⟨rfl, ?_⟩
    have := HB.out
    exact by repeat (first | (with_reducible exact Below.refl _ _) | (with_reducible assumption) | (with_reducible refine bl_alloc ?_ _) | (with_reducible refine bl_drew ?_) | (with_reducible refine bl_drewN ?_ _) | ((with_reducible refine bl_set ?_ ?hb _); (case hb => first | (simp; done) | omega | (simp; omega))) | (with_reducible refine bl_trans ?_ (by assumption)))
def pm3 : List (List UInt8) → (Int × Int × Int) × Bool
  | [x, y, z] => mlt (rdV 10 x) (rdV 10 y) (rdV 10 z)
  | _ => ((0, 0, 0), false)
theorem pm3_out {l : List (List UInt8)} (h : l.length ≠ 3) : pm3 l = ((0, 0, 0), false) := by
  rcases l with _ | ⟨x, _ | ⟨y, _ | ⟨z, _ | ⟨u, l⟩⟩⟩⟩ <;> first | rfl | exact absurd rfl h
theorem three {α : Type} {l : List α} (h : l.length = 3) : ∃ x y z, l = [x, y, z] := by
  rcases l with _ | ⟨x, _ | ⟨y, _ | ⟨z, _ | ⟨u, l⟩⟩⟩⟩ <;> first | exact ⟨_, _, _, rfl⟩ | simp at h
set_option maxRecDepth 8000 in
set_option maxHeartbeats 4000000 in
theorem specPM_any (s : ByteArray) (hs : s.size ≤ 1048576) (w : World) : Calls Tryd.prog 30 #[.string s] w (RetM (pm3 (spl 45 [] s.data.toList)) w) := by
  have HSP := Lib.hid (fun W => split_any s hs 45 45 rfl W)
  obtain ⟨v, hv⟩ : ∃ v, pm3 (spl 45 [] s.data.toList) = v := ⟨_, rfl⟩
  rw [hv]
  have HV := Lib.hid hv
  clear hv
  go_enter Tryd.func30, Tryd.ntmps30
  go_wp2_with fail
  refine (HSP.out _).mono ?_
  rintro e w1 ⟨W, A, c, rfl, hsp, hz, hr, hA, hb⟩
  obtain ⟨hc0, hf0, hz0⟩ := bl_at hb (k := w.heap.size) (by first | assumption | (simp; done) | (simp; omega))
  have HB := Lib.hid (show Below w.heap.size w w1 from by repeat (first | (with_reducible exact Below.refl _ _) | (with_reducible assumption) | (with_reducible refine bl_alloc ?_ _) | (with_reducible refine bl_drew ?_) | (with_reducible refine bl_drewN ?_ _) | ((with_reducible refine bl_set ?_ ?hb _); (case hb => first | (simp; done) | omega | (simp; omega))) | (with_reducible refine bl_trans ?_ (by assumption))))
  have hz1 : w.heap.size < w1.heap.size := hz0
  have hv := HV.out
  rw [← hsp] at hv
  clear hb hsp HSP HV
  by_cases hW : W.length = 3
  · rw [hW] at hr
    rw [hW]
    obtain ⟨x, y, z, rfl⟩ := three hW
    obtain ⟨b, off, rfl, hbB, hcc⟩ := hr.2 (by omega)
    have c0 : w1.cell? ⟨b, off, none⟩ = some (.string x) := by simpa [cS] using hcc 0 x rfl 0 (by omega)
    have c1 : w1.cell? ⟨b, off + 1, none⟩ = some (.string y) := by simpa [cS] using hcc 1 y rfl 0 (by omega)
    have c2 : w1.cell? ⟨b, off + 2, none⟩ = some (.string z) := by simpa [cS] using hcc 2 z rfl 0 (by omega)
    have hsx := hz x (by simp)
    have hsy := hz y (by simp)
    have hsz := hz z (by simp)
    have HX := Lib.hid (fun W => meRead_any x W (by omega))
    have HY := Lib.hid (fun W => meRead_any y W (by omega))
    have HZ := Lib.hid (fun W => meRead_any z W (by omega))
    have HM := Lib.hid (fun W => meIf_any (rdV 10 x.data.toList) (rdV 10 y.data.toList) (rdV 10 z.data.toList) W)
    obtain rfl : mlt (rdV 10 x.data.toList) (rdV 10 y.data.toList) (rdV 10 z.data.toList) = v := hv
    obtain ⟨p, hp⟩ : ∃ p, rdV 10 x.data.toList = p := ⟨_, rfl⟩
    obtain ⟨q, hq⟩ : ∃ p, rdV 10 y.data.toList = p := ⟨_, rfl⟩
    obtain ⟨r, hr'⟩ : ∃ p, rdV 10 z.data.toList = p := ⟨_, rfl⟩
    rw [hp] at HX HM ⊢
    rw [hq] at HY HM ⊢
    rw [hr'] at HZ HM ⊢
    have HPQ := Lib.hid (show mlt (rdV 10 x.data.toList) (rdV 10 y.data.toList) (rdV 10 z.data.toList) = mlt p q r by rw [hp, hq, hr'])
    clear hr hcc hz hW hp hq hr'
    have hbn : b ≠ w.heap.size := by have := hA b off none rfl; simp at this; omega
    have hbn' : w.heap.size ≠ b := by omega
    clear hA
    go_wp2_with fail
    refine wp_region_noPanic ?_
    refine wp_region_held_drew (S := (fun w' => w'.cell? ⟨b, off, none⟩ = some (.string x) ∧ w'.cell? ⟨b, off + 1, none⟩ = some (.string y) ∧ w'.cell? ⟨b, off + 2, none⟩ = some (.string z))) (by kernel_rfl) (by (try dsimp only); go_keep) (fun hHeld => ?_)
    refine take_of (some 11) (i := 0) (v := ?vq1_0) rfl rfl (by kernel_rfl) (by kernel_rfl) (by kernel_rfl) (fun _ _ _ h => h) (Or.inl ⟨by rfl, ?hyq1_0⟩) (by assumption) ?restq1_0
    case hyq1_0 => (intro w hSw; (try dsimp only at hSw); go_simp; try with_reducible rfl)
    try simp only [Act.put, List.setIfInBounds_toArray, List.set_cons_zero, List.set_cons_succ]
    refine take_of (some 12) (i := 1) (v := ?vq1_1) rfl rfl (by kernel_rfl) (by kernel_rfl) (by kernel_rfl) (fun _ _ _ h => h) (Or.inl ⟨by rfl, ?hyq1_1⟩) (by assumption) ?restq1_1
    case hyq1_1 => (intro w hSw; (try dsimp only at hSw); go_simp; try with_reducible rfl)
    try simp only [Act.put, List.setIfInBounds_toArray, List.set_cons_zero, List.set_cons_succ]
    refine take_of (some 13) (i := 2) (v := ?vq1_2) rfl rfl (by kernel_rfl) (by kernel_rfl) (by kernel_rfl) (fun _ _ _ h => h) (Or.inl ⟨by rfl, ?hyq1_2⟩) (by assumption) ?restq1_2
    case hyq1_2 => (intro w hSw; (try dsimp only at hSw); go_simp; try with_reducible rfl)
    try simp only [Act.put, List.setIfInBounds_toArray, List.set_cons_zero, List.set_cons_succ]
    refine take_of (some 15) (i := 4) (v := ?vq1_4) rfl rfl (by kernel_rfl) (by kernel_rfl) (by kernel_rfl) (fun _ _ _ h => h) (Or.inl ⟨by rfl, ?hyq1_4⟩) (by assumption) ?restq1_4
    case hyq1_4 => (intro w hSw; (try dsimp only at hSw); go_simp; try with_reducible rfl)
    try simp only [Act.put, List.setIfInBounds_toArray, List.set_cons_zero, List.set_cons_succ]
    refine take_of (some 16) (i := 5) (v := ?vq1_5) rfl rfl (by kernel_rfl) (by kernel_rfl) (by kernel_rfl) (fun _ _ _ h => h) (Or.inl ⟨by rfl, ?hyq1_5⟩) (by assumption) ?restq1_5
    case hyq1_5 => (intro w hSw; (try dsimp only at hSw); go_simp; try with_reducible rfl)
    try simp only [Act.put, List.setIfInBounds_toArray, List.set_cons_zero, List.set_cons_succ]
    refine take_of (some 17) (i := 6) (v := ?vq1_6) rfl rfl (by kernel_rfl) (by kernel_rfl) (by kernel_rfl) (fun _ _ _ h => h) (Or.inl ⟨by rfl, ?hyq1_6⟩) (by assumption) ?restq1_6
    case hyq1_6 => (intro w hSw; (try dsimp only at hSw); go_simp; try with_reducible rfl)
    try simp only [Act.put, List.setIfInBounds_toArray, List.set_cons_zero, List.set_cons_succ]
    refine take_of (some 19) (i := 8) (v := ?vq1_8) rfl rfl (by kernel_rfl) (by kernel_rfl) (by kernel_rfl) (fun _ _ _ h => h) (Or.inl ⟨by rfl, ?hyq1_8⟩) (by assumption) ?restq1_8
    case hyq1_8 => (intro w hSw; (try dsimp only at hSw); go_simp; try with_reducible rfl)
    try simp only [Act.put, List.setIfInBounds_toArray, List.set_cons_zero, List.set_cons_succ]
    refine take_of (some 20) (i := 9) (v := ?vq1_9) rfl rfl (by kernel_rfl) (by kernel_rfl) (by kernel_rfl) (fun _ _ _ h => h) (Or.inl ⟨by rfl, ?hyq1_9⟩) (by assumption) ?restq1_9
    case hyq1_9 => (intro w hSw; (try dsimp only at hSw); go_simp; try with_reducible rfl)
    try simp only [Act.put, List.setIfInBounds_toArray, List.set_cons_zero, List.set_cons_succ]
    refine take_of (some 21) (i := 10) (v := ?vq1_10) rfl rfl (by kernel_rfl) (by kernel_rfl) (by kernel_rfl) (fun _ _ _ h => h) (Or.inl ⟨by rfl, ?hyq1_10⟩) (by assumption) ?restq1_10
    case hyq1_10 => (intro w hSw; (try dsimp only at hSw); go_simp; try with_reducible rfl)
    try simp only [Act.put, List.setIfInBounds_toArray, List.set_cons_zero, List.set_cons_succ]
    refine wpAnyH_ready (rs := [3]) (by kernel_rfl) (by simp) ?_
    refine AllReadyH.cons rfl (fun K hK => ?_) AllReadyH.nil
    go_simp
    (go_at_call 65; refine (HX.out _).mono ?_; rintro e w3 ⟨rfl, rfl⟩)
    go_wp2_with fail
    refine hK.out _ _ (by (try dsimp only); go_keep) (fun hHeld => ?_)
    clear hK K
    try simp only [Act.put, List.setIfInBounds_toArray, List.set_cons_zero, List.set_cons_succ]
    refine wpAnyH_ready (rs := [7]) (by kernel_rfl) (by simp) ?_
    refine AllReadyH.cons rfl (fun K hK => ?_) AllReadyH.nil
    go_simp
    (go_at_call 65; refine (HY.out _).mono ?_; rintro e w3 ⟨rfl, rfl⟩)
    go_wp2_with fail
    refine hK.out _ _ (by (try dsimp only); go_keep) (fun hHeld => ?_)
    clear hK K
    try simp only [Act.put, List.setIfInBounds_toArray, List.set_cons_zero, List.set_cons_succ]
    refine wpAnyH_ready (rs := [11]) (by kernel_rfl) (by simp) ?_
    refine AllReadyH.cons rfl (fun K hK => ?_) AllReadyH.nil
    go_simp
    (go_at_call 65; refine (HZ.out _).mono ?_; rintro e w3 ⟨rfl, rfl⟩)
    go_wp2_with fail
    refine hK.out _ _ (by (try dsimp only); go_keep) (fun hHeld => ?_)
    clear hK K
    try simp only [Act.put, List.setIfInBounds_toArray, List.set_cons_zero, List.set_cons_succ]
    refine take_of (some 23) (i := 12) (v := ?vq1_12) rfl rfl (by kernel_rfl) (by kernel_rfl) (by kernel_rfl) (fun _ _ _ h => h) (Or.inl ⟨by rfl, ?hyq1_12⟩) (by assumption) ?restq1_12
    case hyq1_12 => (intro w hSw; (try dsimp only at hSw); go_simp; try with_reducible rfl)
    try simp only [Act.put, List.setIfInBounds_toArray, List.set_cons_zero, List.set_cons_succ]
    refine wpAnyH_ready (rs := [13]) (by kernel_rfl) (by simp) ?_
    refine AllReadyH.cons rfl (fun K hK => ?_) AllReadyH.nil
    go_simp
    (go_at_call 64; refine (HM.out _).mono ?_; rintro e w5 ⟨rfl, hb⟩; have hb5 : Below w1.heap.size w1 w5 := (bl_drew (Below.refl w1.heap.size w1)).trans hb; have x0 := (hb5.cell (p := ⟨b, off, none⟩) (by show _ < _; omega)).trans c0; have x1 := (hb5.cell (p := ⟨b, off + 1, none⟩) (by show _ < _; omega)).trans c1; have x2 := (hb5.cell (p := ⟨b, off + 2, none⟩) (by show _ < _; omega)).trans c2; have r0 : w5.cell? ⟨w.heap.size, 0, none⟩ = some (.int .i64 0) := (hb5.cell (p := ⟨w.heap.size, 0, none⟩) (by show w.heap.size < _; omega)).trans ((hc0 0).trans (by simp)); have r1 : w5.cell? ⟨w.heap.size, 1, none⟩ = some (.int .i64 0) := (hb5.cell (p := ⟨w.heap.size, 1, none⟩) (by show w.heap.size < _; omega)).trans ((hc0 1).trans (by simp)); have r2 : w5.cell? ⟨w.heap.size, 2, none⟩ = some (.int .i64 0) := (hb5.cell (p := ⟨w.heap.size, 2, none⟩) (by show w.heap.size < _; omega)).trans ((hc0 2).trans (by simp)); have rf : ∀ o, w5.frozen? ⟨w.heap.size, o, none⟩ = false := (fun o => (hb5.frozen (p := ⟨w.heap.size, o, none⟩) (by show w.heap.size < _; omega)).trans ((hf0 o).trans (by simp))); have hs5 : w.heap.size < w5.heap.size := (by have := hb5.size; omega); have HB5 := Lib.hid (bl_trans HB.out hb5); clear hb hb5)
    go_wp2_with fail
    refine hK.out _ _ (by (try dsimp only); go_keep) (fun hHeld => ?_)
    clear hK K
    try simp only [Act.put, List.setIfInBounds_toArray, List.set_cons_zero, List.set_cons_succ]
    refine take_of (some 25) (i := 14) (v := ?vq1_14) rfl rfl (by kernel_rfl) (by kernel_rfl) (by kernel_rfl) (fun _ _ _ h => h) (Or.inl ⟨by rfl, ?hyq1_14⟩) (by assumption) ?restq1_14
    case hyq1_14 => (intro w hSw; (try dsimp only at hSw); go_simp; try with_reducible rfl)
    try simp only [Act.put, List.setIfInBounds_toArray, List.set_cons_zero, List.set_cons_succ]
    refine take_of (some 26) (i := 15) (v := ?vq1_15) rfl rfl (by kernel_rfl) (by kernel_rfl) (by kernel_rfl) (fun _ _ _ h => h) (Or.inl ⟨by rfl, ?hyq1_15⟩) (by assumption) ?restq1_15
    case hyq1_15 => (intro w hSw; (try dsimp only at hSw); go_simp; try with_reducible rfl)
    try simp only [Act.put, List.setIfInBounds_toArray, List.set_cons_zero, List.set_cons_succ]
    refine wpAnyH_ready (rs := [16]) (by kernel_rfl) (by simp) ?_
    refine AllReadyH.cons rfl (fun K hK => ?_) AllReadyH.nil
    go_simp
    (skip)
    go_wp2_with fail
    refine hK.out _ _ (by (try dsimp only); go_keep) (fun hHeld => ?_)
    clear hK K
    try simp only [Act.put, List.setIfInBounds_toArray, List.set_cons_zero, List.set_cons_succ]
    refine take_of (some 3) (i := 17) (v := ?vq1_17) rfl rfl (by kernel_rfl) (by kernel_rfl) (by kernel_rfl) (fun _ _ _ h => h) (Or.inl ⟨by rfl, ?hyq1_17⟩) (by assumption) ?restq1_17
    case hyq1_17 => (intro w hSw; (try dsimp only at hSw); go_simp; try with_reducible rfl)
    try simp only [Act.put, List.setIfInBounds_toArray, List.set_cons_zero, List.set_cons_succ]
    refine wpAnyH_done (by kernel_rfl) ?_ _
    refine NoPanic.normal ?_
    go_wp2
    refine bodyPost_ret (v := .tuple #[.agg #[.int .i64 (mlt p q r).1.1, .int .i64 (mlt p q r).1.2.1, .int .i64 (mlt p q r).1.2.2], .bool (mlt p q r).2]) (by simp [results, Tryd.results30, go_sem, *]) rfl ⟨by rw [HPQ.out], ?_⟩
    have := HB5.out
    exact by repeat (first | (with_reducible exact Below.refl _ _) | (with_reducible assumption) | (with_reducible refine bl_alloc ?_ _) | (with_reducible refine bl_drew ?_) | (with_reducible refine bl_drewN ?_ _) | ((with_reducible refine bl_set ?_ ?hb _); (case hb => first | (simp; done) | omega | (simp; omega))) | (with_reducible refine bl_trans ?_ (by assumption)))
  · have hW3 : ¬ (W.length : Int) = 3 := by omega
    obtain rfl : ((0, 0, 0), false) = v := by rw [← hv]; exact (pm3_out (by rw [List.length_map]; exact hW)).symm
    go_wp2
    refine bodyPost_ret (v := .tuple #[.agg #[.int .i64 0, .int .i64 0, .int .i64 0], .bool false]) (by simp [results, Tryd.results30, go_sem, *]) rfl ⟨rfl, ?_⟩
    have := HB.out
    exact by repeat (first | (with_reducible exact Below.refl _ _) | (with_reducible assumption) | (with_reducible refine bl_alloc ?_ _) | (with_reducible refine bl_drew ?_) | (with_reducible refine bl_drewN ?_ _) | ((with_reducible refine bl_set ?_ ?hb _); (case hb => first | (simp; done) | omega | (simp; omega))) | (with_reducible refine bl_trans ?_ (by assumption)))
end Go.Proofs.YtgfobchpkjpiiaaDoor
