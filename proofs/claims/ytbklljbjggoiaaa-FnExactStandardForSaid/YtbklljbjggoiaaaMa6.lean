/-
  maFilings, maCan; FilingsFor and CanBeJustified on both sides, and the laws' walks.
-/
import Derived.Test.YtbklljbjggoiaaaMa5
namespace Go.Proofs.Ytbklljbjggoiaaa
open Go.RowKit
set_option linter.unusedVariables false
attribute [local go_sem ↓] Go.wp_at_zero Go.wp_at_succ

theorem ltx (W : World) : W.heap.size ≤ W.heap.size := Nat.le_refl _
set_option maxHeartbeats 1000000 in
theorem maFilings_any (a b c d f a' b' c' d' f' : Int) (w : World) (h : strikeB a b c d f = true) (h' : strikeB a' b' c' d' f' = true) :
    Calls Try.prog 55 #[.agg #[.int .i64 a, .int .i64 b, .int .i64 c, .int .i64 d, .int .i64 f], .agg #[.int .i64 a', .int .i64 b', .int .i64 c', .int .i64 d', .int .i64 f']] w (RetL (difs a b c d f a' b' c' d' f') w) := by
  have HS := Lib.hid h
  have HS' := Lib.hid h'
  clear h h'
  obtain ⟨i0, hi0, hi1, hi2, hi3⟩ := info_parts infoI
  go_enter Try.func55, Try.ntmps55
  go_wp2_with (go_at_call 52; refine (maParts_any _ _ _ _ _ _).mono ?_; rintro e w' ⟨rfl, rfl⟩)
  obtain ⟨W, hW⟩ : ∃ W, W = ((((((w.alloc (.cells #[.int .i64 a, .int .i64 b, .int .i64 c, .int .i64 d, .int .i64 f] 25)).alloc (.cells #[.int .i64 a', .int .i64 b', .int .i64 c', .int .i64 d', .int .i64 f'] 25)).alloc (.cells #[.int .i64 a', .int .i64 b', .int .i64 c', .int .i64 d', .int .i64 f'] 25)).alloc (.cells #[.int .i64 a', .int .i64 b', .int .i64 c', .int .i64 d', .int .i64 f'] 3)).alloc (.cells #[.int .i64 a, .int .i64 b, .int .i64 c, .int .i64 d, .int .i64 f] 25)).alloc (.cells #[.int .i64 a, .int .i64 b, .int .i64 c, .int .i64 d, .int .i64 f] 3)) := ⟨_, rfl⟩
  have hx : ∀ k x, [a, b, c, d, f][k]? = some x → W.cell? ⟨w.heap.size + 1 + 1 + 1 + 1 + 1, k, none⟩ = some (.int .i64 x) := by
    intro k x hk
    rw [hW, World.cell?_alloc_at _ _ _ _ (by simp)]
    match k, hk with
    | 0, hk => simp at hk; subst hk; rfl
    | 1, hk => simp at hk; subst hk; rfl
    | 2, hk => simp at hk; subst hk; rfl
    | 3, hk => simp at hk; subst hk; rfl
    | 4, hk => simp at hk; subst hk; rfl
  have hy : ∀ k x, [a', b', c', d', f'][k]? = some x → W.cell? ⟨w.heap.size + 1 + 1 + 1, k, none⟩ = some (.int .i64 x) := by
    intro k x hk
    rw [hW, World.cell?_alloc_past _ _ _ (by simp), World.cell?_alloc_past _ _ _ (by simp), World.cell?_alloc_at _ _ _ _ (by simp)]
    match k, hk with
    | 0, hk => simp at hk; subst hk; rfl
    | 1, hk => simp at hk; subst hk; rfl
    | 2, hk => simp at hk; subst hk; rfl
    | 3, hk => simp at hk; subst hk; rfl
    | 4, hk => simp at hk; subst hk; rfl
  have hsz : w.heap.size + 1 + 1 + 1 + 1 + 1 < W.heap.size := by rw [hW]; simp
  have hbW : Below w.heap.size w W := by rw [hW]; exact by repeat (first | (with_reducible exact Below.refl _ _) | (with_reducible assumption) | (with_reducible refine bl_alloc ?_ _) | (with_reducible refine bl_drew ?_) | (with_reducible refine bl_drewN ?_ _) | ((with_reducible refine bl_set ?_ ?hb _); (case hb => first | (simp; done) | omega | (simp; omega))) | (with_reducible refine bl_trans ?_ (by assumption)))
  rw [← hW]
  clear hW
  go_loopw [5, 7, 8, 14] (fun s _ _ i wr => ∃ k : Nat, k ≤ 5 ∧ i = .int .i64 k ∧ OwnG 3 1 w.heap.size W W.heap.size wr s k ((difTo [a, b, c, d, f] [a', b', c', d', f'] k).map (Value.int .i64))) (fun _ _ _ i _ => 5 - (intOf i).toNat)
  case atStart => exact ⟨0, by omega, rfl, OwnG.nil _ _⟩
  case round =>
    obtain ⟨k, hk, rfl, hown⟩ := hrel
    by_cases hlt : k < 5
    · obtain ⟨x, hxk⟩ : ∃ x, [a, b, c, d, f][k]? = some x := ⟨[a, b, c, d, f][k]'(by simpa using hlt), List.getElem?_eq_getElem _⟩
      obtain ⟨y, hyk⟩ : ∃ y, [a', b', c', d', f'][k]? = some y := ⟨[a', b', c', d', f'][k]'(by simpa using hlt), List.getElem?_eq_getElem _⟩
      obtain ⟨x0, x1⟩ := in5 HS.out hxk
      obtain ⟨y0, y1⟩ := in5 HS'.out hyk
      have hcx := (hown.cell (b := w.heap.size + 1 + 1 + 1 + 1 + 1) (by omega) (by omega) k).trans (hx k x hxk)
      have hcy := (hown.cell (b := w.heap.size + 1 + 1 + 1) (by omega) (by omega) k).trans (hy k y hyk)
      have HX := Lib.hid hxk
      have HY := Lib.hid hyk
      have HO := Lib.hid hown
      clear hxk hyk hown
      go_wp2_with (at_builtin; refine wpList_append_own_at _ rfl _ _ 42 rfl w.heap.size 3 i0 (.int .i64 0) 1 8 Try.underlying42 hi0 hi1 hi2 hi3 rfl (by decide) _ _ _ rfl ((HO.out.alloc _).own) ⟨wr.heap.size, 0, none⟩ 1 1 [.int .i64 (x - y)] rfl rfl ?c1 ?c2 ?c3 ?c4 ?c5 ?_)
      case c1 => exact cell_one_new _ _ _
      case c2 => intro u hu; simp at hu; subst hu; rfl
      case c3 => unfold maxLen; omega
      case c4 => omega
      case c5 => have := HO.out.gr.size; simp; omega
      intro v' w5 hown5 hg5 _ hat5
      have HN := Lib.hid (HO.out.push hown5 hg5 hat5)
      clear hown5 hg5 hat5
      go_wp2
      go_roundw
      case rel => exact ⟨k + 1, by omega, by go_num, by rw [difTo_snoc HX.out HY.out]; exact HN.out⟩
      case measure => simp [intOf]; omega
    · obtain rfl : k = 5 := by omega
      have hbl := hown.to_below (B := w.heap.size) (by omega) (by omega)
      obtain ⟨A, cap, rfl, hwr⟩ := own_wr hown.own
      clear hown
      go_wp2
      go_ret
      have hl := difs_len a b c d f a' b' c' d' f'
      refine ⟨A, cap, by rw [hl]; rfl, by rw [hl]; exact hwr, hbW.trans hbl⟩
set_option maxHeartbeats 1000000 in
theorem maCan_any (a b c d f a' b' c' d' f' : Int) (w : World) (h : strikeB a b c d f = true) (h' : strikeB a' b' c' d' f' = true) :
    Calls Try.prog 50 #[.agg #[.int .i64 a, .int .i64 b, .int .i64 c, .int .i64 d, .int .i64 f], .agg #[.int .i64 a', .int .i64 b', .int .i64 c', .int .i64 d', .int .i64 f']] w fun e w' => e = .returned (.bool (canB a b c d f a' b' c' d' f')) ∧ Below w.heap.size w w' := by
  have HS := Lib.hid h
  have HS' := Lib.hid h'
  clear h h'
  have HE : Hid (∀ k x y, [a, b, c, d, f][k]? = some x → [a', b', c', d', f'][k]? = some y → ¬ y ≤ x → canB a b c d f a' b' c' d' f' = false) := fun k x y hx hy hn => by
    unfold canB
    rw [okTo_end (by simp), okTo_stop hx hy hn, Bool.and_false]
  have HF : Hid (okTo true [a, b, c, d, f] [a', b', c', d', f'] 5 = true → canB a b c d f a' b' c' d' f' = (c == c')) := fun hh => by
    unfold canB
    rw [okTo_end (by simp)] at hh ⊢
    rw [Bool.true_and] at hh
    rw [hh, Bool.and_true]
  go_enter Try.func50, Try.ntmps50
  go_wp2_with (go_at_call 52; refine (maParts_any _ _ _ _ _ _).mono ?_; rintro e w' ⟨rfl, rfl⟩)
  obtain ⟨W, hW⟩ : ∃ W, W = ((((((w.alloc (.cells #[.int .i64 a, .int .i64 b, .int .i64 c, .int .i64 d, .int .i64 f] 25)).alloc (.cells #[.int .i64 a', .int .i64 b', .int .i64 c', .int .i64 d', .int .i64 f'] 25)).alloc (.cells #[.int .i64 a', .int .i64 b', .int .i64 c', .int .i64 d', .int .i64 f'] 25)).alloc (.cells #[.int .i64 a', .int .i64 b', .int .i64 c', .int .i64 d', .int .i64 f'] 3)).alloc (.cells #[.int .i64 a, .int .i64 b, .int .i64 c, .int .i64 d, .int .i64 f] 25)).alloc (.cells #[.int .i64 a, .int .i64 b, .int .i64 c, .int .i64 d, .int .i64 f] 3)) := ⟨_, rfl⟩
  have hx : ∀ k x, [a, b, c, d, f][k]? = some x → W.cell? ⟨w.heap.size + 1 + 1 + 1 + 1 + 1, k, none⟩ = some (.int .i64 x) := by
    intro k x hk
    rw [hW, World.cell?_alloc_at _ _ _ _ (by simp)]
    match k, hk with
    | 0, hk => simp at hk; subst hk; rfl
    | 1, hk => simp at hk; subst hk; rfl
    | 2, hk => simp at hk; subst hk; rfl
    | 3, hk => simp at hk; subst hk; rfl
    | 4, hk => simp at hk; subst hk; rfl
  have hy : ∀ k x, [a', b', c', d', f'][k]? = some x → W.cell? ⟨w.heap.size + 1 + 1 + 1, k, none⟩ = some (.int .i64 x) := by
    intro k x hk
    rw [hW, World.cell?_alloc_past _ _ _ (by simp), World.cell?_alloc_past _ _ _ (by simp), World.cell?_alloc_at _ _ _ _ (by simp)]
    match k, hk with
    | 0, hk => simp at hk; subst hk; rfl
    | 1, hk => simp at hk; subst hk; rfl
    | 2, hk => simp at hk; subst hk; rfl
    | 3, hk => simp at hk; subst hk; rfl
    | 4, hk => simp at hk; subst hk; rfl
  have h0 : W.cell? ⟨w.heap.size, 2, none⟩ = some (.int .i64 c) := by rw [hW]; go_simp
  have h1 : W.cell? ⟨w.heap.size + 1, 2, none⟩ = some (.int .i64 c') := by rw [hW]; go_simp
  have hbW : Below w.heap.size w W := by rw [hW]; exact by repeat (first | (with_reducible exact Below.refl _ _) | (with_reducible assumption) | (with_reducible refine bl_alloc ?_ _) | (with_reducible refine bl_drew ?_) | (with_reducible refine bl_drewN ?_ _) | ((with_reducible refine bl_set ?_ ?hb _); (case hb => first | (simp; done) | omega | (simp; omega))) | (with_reducible refine bl_trans ?_ (by assumption)))
  rw [← hW]
  clear hW
  have HXX := Lib.hid hx
  have HYY := Lib.hid hy
  clear hx hy
  go_loop [6, 7, 13] (fun _ _ i => ∃ k : Nat, k ≤ 5 ∧ i = .int .i64 k ∧ Hid (okTo true [a, b, c, d, f] [a', b', c', d', f'] k = true)) (fun _ _ i => 5 - (intOf i).toNat)
  case atStart => exact ⟨0, by omega, rfl, okTo_zero _ _ _⟩
  case round =>
    obtain ⟨k, hk, rfl, HO⟩ := hrel
    by_cases hlt : k < 5
    · obtain ⟨x, hxk⟩ : ∃ x, [a, b, c, d, f][k]? = some x := ⟨[a, b, c, d, f][k]'(by simpa using hlt), List.getElem?_eq_getElem _⟩
      obtain ⟨y, hyk⟩ : ∃ y, [a', b', c', d', f'][k]? = some y := ⟨[a', b', c', d', f'][k]'(by simpa using hlt), List.getElem?_eq_getElem _⟩
      have hcx := HXX.out k x hxk
      have hcy := HYY.out k y hyk
      have HX := Lib.hid hxk
      have HY := Lib.hid hyk
      clear hxk hyk
      by_cases hyx : y ≤ x
      · go_wp2
        go_round
        case rel => exact ⟨k + 1, by omega, by go_num, by unfold Hid; rw [okTo_snoc HX.out HY.out, HO.out]; simpa using hyx⟩
        case measure => simp [intOf]; omega
      · go_wp2
        go_ret
        exact ⟨ret_bool (HE.out _ _ _ HX.out HY.out hyx).symm, hbW⟩
    · obtain rfl : k = 5 := by omega
      go_wp2
      go_ret
      exact ⟨ret_bool (HF.out HO.out).symm, hbW⟩

/-! ### FilingsFor, CanBeJustified -/
def ffB (a b c d f a' b' c' d' f' : Int) : Bool := strikeB a b c d f && strikeB a' b' c' d' f' && canB a b c d f a' b' c' d' f'
def ffL (a b c d f a' b' c' d' f' : Int) : List Int := if ffB a b c d f a' b' c' d' f' then difs a b c d f a' b' c' d' f' else []
theorem ffL_no {a b c d f a' b' c' d' f' : Int} (h : ffB a b c d f a' b' c' d' f' = false) : ffL a b c d f a' b' c' d' f' = [] := by simp [ffL, h]
theorem ffL_yes {a b c d f a' b' c' d' f' : Int} (h : ffB a b c d f a' b' c' d' f' = true) : ffL a b c d f a' b' c' d' f' = difs a b c d f a' b' c' d' f' := by simp [ffL, h]
def cjB (a b c d f a' b' c' d' f' : Int) : Bool := strikeB a b c d f && strikeB a' b' c' d' f'
set_option maxHeartbeats 1000000 in
theorem specFF_no (a b c d f a' b' c' d' f' : Int) (w : World) (h : strikeB a b c d f = false ∨ strikeB a b c d f = true ∧ strikeB a' b' c' d' f' = false) : Calls Try.prog 30 #[.agg #[.int .i64 a, .int .i64 b, .int .i64 c, .int .i64 d, .int .i64 f], .agg #[.int .i64 a', .int .i64 b', .int .i64 c', .int .i64 d', .int .i64 f']] w (RetS [] false w) := by
  rcases h with h | ⟨h, h'⟩
  all_goals
    go_enter Try.func30, Try.ntmps30
    go_wp2_with (go_at_call 45; refine (maGood_any _ _ _ _ _ _).mono ?_; rintro e w' ⟨rfl, hb⟩; obtain ⟨hc0, hf0, hz0⟩ := bl_at hb (k := w.heap.size) (by first | assumption | (simp; done) | (simp; omega)); obtain ⟨hc1, hf1, hz1⟩ := bl_at hb (k := w.heap.size + 1) (by first | assumption | (simp; done) | (simp; omega)))
    go_ret2
    exact rets_nil rfl (by repeat (first | (with_reducible exact Below.refl _ _) | (with_reducible assumption) | (with_reducible refine bl_alloc ?_ _) | (with_reducible refine bl_drew ?_) | (with_reducible refine bl_drewN ?_ _) | ((with_reducible refine bl_set ?_ ?hb _); (case hb => first | (simp; done) | omega | (simp; omega))) | (with_reducible refine bl_trans ?_ (by assumption)))) _ _
set_option maxHeartbeats 1000000 in
theorem specCJ_any (a b c d f a' b' c' d' f' : Int) (w : World) : Calls Try.prog 23 #[.agg #[.int .i64 a, .int .i64 b, .int .i64 c, .int .i64 d, .int .i64 f], .agg #[.int .i64 a', .int .i64 b', .int .i64 c', .int .i64 d', .int .i64 f']] w fun e w' => e = .returned (.tuple #[.bool (ffB a b c d f a' b' c' d' f'), .bool (cjB a b c d f a' b' c' d' f')]) ∧ Below w.heap.size w w' := by
  rcases h : strikeB a b c d f with _ | _
  · have E : Hid (ffB a b c d f a' b' c' d' f' = false ∧ cjB a b c d f a' b' c' d' f' = false) := ⟨by simp [ffB, h], by simp [cjB, h]⟩
    rw [E.out.1, E.out.2]
    go_enter Try.func23, Try.ntmps23
    go_wp2_with (go_at_call 45; refine (maGood_any _ _ _ _ _ _).mono ?_; rintro e w' ⟨rfl, hb⟩; obtain ⟨hc0, hf0, hz0⟩ := bl_at hb (k := w.heap.size) (by first | assumption | (simp; done) | (simp; omega)); obtain ⟨hc1, hf1, hz1⟩ := bl_at hb (k := w.heap.size + 1) (by first | assumption | (simp; done) | (simp; omega)))
    go_ret2
    exact ⟨rfl, by repeat (first | (with_reducible exact Below.refl _ _) | (with_reducible assumption) | (with_reducible refine bl_alloc ?_ _) | (with_reducible refine bl_drew ?_) | (with_reducible refine bl_drewN ?_ _) | ((with_reducible refine bl_set ?_ ?hb _); (case hb => first | (simp; done) | omega | (simp; omega))) | (with_reducible refine bl_trans ?_ (by assumption)))⟩
  · rcases h' : strikeB a' b' c' d' f' with _ | _
    · have E : Hid (ffB a b c d f a' b' c' d' f' = false ∧ cjB a b c d f a' b' c' d' f' = false) := ⟨by simp [ffB, h, h'], by simp [cjB, h, h']⟩
      rw [E.out.1, E.out.2]
      go_enter Try.func23, Try.ntmps23
      go_wp2_with (go_at_call 45; refine (maGood_any _ _ _ _ _ _).mono ?_; rintro e w' ⟨rfl, hb⟩; obtain ⟨hc0, hf0, hz0⟩ := bl_at hb (k := w.heap.size) (by first | assumption | (simp; done) | (simp; omega)); obtain ⟨hc1, hf1, hz1⟩ := bl_at hb (k := w.heap.size + 1) (by first | assumption | (simp; done) | (simp; omega)))
      go_ret2
      exact ⟨rfl, by repeat (first | (with_reducible exact Below.refl _ _) | (with_reducible assumption) | (with_reducible refine bl_alloc ?_ _) | (with_reducible refine bl_drew ?_) | (with_reducible refine bl_drewN ?_ _) | ((with_reducible refine bl_set ?_ ?hb _); (case hb => first | (simp; done) | omega | (simp; omega))) | (with_reducible refine bl_trans ?_ (by assumption)))⟩
    · have E : Hid (ffB a b c d f a' b' c' d' f' = canB a b c d f a' b' c' d' f' ∧ cjB a b c d f a' b' c' d' f' = true) := ⟨by simp [ffB, h, h'], by simp [cjB, h, h']⟩
      rw [E.out.1, E.out.2]
      have H := Lib.hid h
      have H' := Lib.hid h'
      go_enter Try.func23, Try.ntmps23
      go_wp2_with (first | (go_at_call 45; refine (maGood_any _ _ _ _ _ _).mono ?_; rintro e w' ⟨rfl, hb⟩; obtain ⟨hc0, hf0, hz0⟩ := bl_at hb (k := w.heap.size) (by first | assumption | (simp; done) | (simp; omega)); obtain ⟨hc1, hf1, hz1⟩ := bl_at hb (k := w.heap.size + 1) (by first | assumption | (simp; done) | (simp; omega))) | (go_at_call 50; refine (maCan_any _ _ _ _ _ _ _ _ _ _ _ H.out H'.out).mono ?_; rintro e w' ⟨rfl, hb⟩) | (go_at_call 51; refine (filings_any _ _ _ _ _ _ _ _ _ _ _ H.out H'.out).mono ?_; rintro e w' ⟨A, cap, rfl, hwr, hb⟩))
      go_ret2
      exact ⟨rfl, by repeat (first | (with_reducible exact Below.refl _ _) | (with_reducible assumption) | (with_reducible refine bl_alloc ?_ _) | (with_reducible refine bl_drew ?_) | (with_reducible refine bl_drewN ?_ _) | ((with_reducible refine bl_set ?_ ?hb _); (case hb => first | (simp; done) | omega | (simp; omega))) | (with_reducible refine bl_trans ?_ (by assumption)))⟩
set_option maxHeartbeats 1000000 in
theorem implFF_no (a b c d f a' b' c' d' f' : Int) (w : World) (h : strikeB a b c d f = false ∨ strikeB a b c d f = true ∧ strikeB a' b' c' d' f' = false) : Calls Try.prog 31 #[.agg #[.int .i64 a, .int .i64 b, .int .i64 c, .int .i64 d, .int .i64 f], .agg #[.int .i64 a', .int .i64 b', .int .i64 c', .int .i64 d', .int .i64 f']] w (RetS [] false w) := by
  rcases h with h | ⟨h, h'⟩
  all_goals
    go_enter Try.func31, Try.ntmps31
    go_wp2_with (go_at_call 16; refine (implIsStrike_any _ _ _ _ _ _).mono ?_; rintro e w' ⟨rfl, hb⟩; obtain ⟨hc0, hf0, hz0⟩ := bl_at hb (k := w.heap.size) (by first | assumption | (simp; done) | (simp; omega)); obtain ⟨hc1, hf1, hz1⟩ := bl_at hb (k := w.heap.size + 1) (by first | assumption | (simp; done) | (simp; omega)))
    go_ret2
    exact rets_nil rfl (by repeat (first | (with_reducible exact Below.refl _ _) | (with_reducible assumption) | (with_reducible refine bl_alloc ?_ _) | (with_reducible refine bl_drew ?_) | (with_reducible refine bl_drewN ?_ _) | ((with_reducible refine bl_set ?_ ?hb _); (case hb => first | (simp; done) | omega | (simp; omega))) | (with_reducible refine bl_trans ?_ (by assumption)))) _ _
set_option maxHeartbeats 1000000 in
theorem implCJ_any (a b c d f a' b' c' d' f' : Int) (w : World) : Calls Try.prog 24 #[.agg #[.int .i64 a, .int .i64 b, .int .i64 c, .int .i64 d, .int .i64 f], .agg #[.int .i64 a', .int .i64 b', .int .i64 c', .int .i64 d', .int .i64 f']] w fun e w' => e = .returned (.tuple #[.bool (ffB a b c d f a' b' c' d' f'), .bool (cjB a b c d f a' b' c' d' f')]) ∧ Below w.heap.size w w' := by
  rcases h : strikeB a b c d f with _ | _
  · have E : Hid (ffB a b c d f a' b' c' d' f' = false ∧ cjB a b c d f a' b' c' d' f' = false) := ⟨by simp [ffB, h], by simp [cjB, h]⟩
    rw [E.out.1, E.out.2]
    go_enter Try.func24, Try.ntmps24
    go_wp2_with (go_at_call 16; refine (implIsStrike_any _ _ _ _ _ _).mono ?_; rintro e w' ⟨rfl, hb⟩; obtain ⟨hc0, hf0, hz0⟩ := bl_at hb (k := w.heap.size) (by first | assumption | (simp; done) | (simp; omega)); obtain ⟨hc1, hf1, hz1⟩ := bl_at hb (k := w.heap.size + 1) (by first | assumption | (simp; done) | (simp; omega)))
    go_ret2
    exact ⟨rfl, by repeat (first | (with_reducible exact Below.refl _ _) | (with_reducible assumption) | (with_reducible refine bl_alloc ?_ _) | (with_reducible refine bl_drew ?_) | (with_reducible refine bl_drewN ?_ _) | ((with_reducible refine bl_set ?_ ?hb _); (case hb => first | (simp; done) | omega | (simp; omega))) | (with_reducible refine bl_trans ?_ (by assumption)))⟩
  · rcases h' : strikeB a' b' c' d' f' with _ | _
    · have E : Hid (ffB a b c d f a' b' c' d' f' = false ∧ cjB a b c d f a' b' c' d' f' = false) := ⟨by simp [ffB, h, h'], by simp [cjB, h, h']⟩
      rw [E.out.1, E.out.2]
      go_enter Try.func24, Try.ntmps24
      go_wp2_with (go_at_call 16; refine (implIsStrike_any _ _ _ _ _ _).mono ?_; rintro e w' ⟨rfl, hb⟩; obtain ⟨hc0, hf0, hz0⟩ := bl_at hb (k := w.heap.size) (by first | assumption | (simp; done) | (simp; omega)); obtain ⟨hc1, hf1, hz1⟩ := bl_at hb (k := w.heap.size + 1) (by first | assumption | (simp; done) | (simp; omega)))
      go_ret2
      exact ⟨rfl, by repeat (first | (with_reducible exact Below.refl _ _) | (with_reducible assumption) | (with_reducible refine bl_alloc ?_ _) | (with_reducible refine bl_drew ?_) | (with_reducible refine bl_drewN ?_ _) | ((with_reducible refine bl_set ?_ ?hb _); (case hb => first | (simp; done) | omega | (simp; omega))) | (with_reducible refine bl_trans ?_ (by assumption)))⟩
    · have E : Hid (ffB a b c d f a' b' c' d' f' = canB a b c d f a' b' c' d' f' ∧ cjB a b c d f a' b' c' d' f' = true) := ⟨by simp [ffB, h, h'], by simp [cjB, h, h']⟩
      rw [E.out.1, E.out.2]
      have H := Lib.hid h
      have H' := Lib.hid h'
      go_enter Try.func24, Try.ntmps24
      go_wp2_with (first | (go_at_call 16; refine (implIsStrike_any _ _ _ _ _ _).mono ?_; rintro e w' ⟨rfl, hb⟩; obtain ⟨hc0, hf0, hz0⟩ := bl_at hb (k := w.heap.size) (by first | assumption | (simp; done) | (simp; omega)); obtain ⟨hc1, hf1, hz1⟩ := bl_at hb (k := w.heap.size + 1) (by first | assumption | (simp; done) | (simp; omega))) | (go_at_call 50; refine (maCan_any _ _ _ _ _ _ _ _ _ _ _ H.out H'.out).mono ?_; rintro e w' ⟨rfl, hb⟩) | (go_at_call 51; refine (filings_any _ _ _ _ _ _ _ _ _ _ _ H.out H'.out).mono ?_; rintro e w' ⟨A, cap, rfl, hwr, hb⟩))
      go_ret2
      exact ⟨rfl, by repeat (first | (with_reducible exact Below.refl _ _) | (with_reducible assumption) | (with_reducible refine bl_alloc ?_ _) | (with_reducible refine bl_drew ?_) | (with_reducible refine bl_drewN ?_ _) | ((with_reducible refine bl_set ?_ ?hb _); (case hb => first | (simp; done) | omega | (simp; omega))) | (with_reducible refine bl_trans ?_ (by assumption)))⟩
set_option maxHeartbeats 1000000 in
theorem implFF_yes (a b c d f a' b' c' d' f' : Int) (w : World) (h : strikeB a b c d f = true) (h' : strikeB a' b' c' d' f' = true) : Calls Try.prog 31 #[.agg #[.int .i64 a, .int .i64 b, .int .i64 c, .int .i64 d, .int .i64 f], .agg #[.int .i64 a', .int .i64 b', .int .i64 c', .int .i64 d', .int .i64 f']] w (RetS (ffL a b c d f a' b' c' d' f') (ffB a b c d f a' b' c' d' f') w) := by
  have H := Lib.hid h
  have H' := Lib.hid h'
  rcases hc : canB a b c d f a' b' c' d' f' with _ | _
  · have E : ffB a b c d f a' b' c' d' f' = false := by simp [ffB, hc]
    rw [ffL_no E, E]
    clear E
    go_enter Try.func31, Try.ntmps31
    go_wp2_with (first | (go_at_call 16; refine (implIsStrike_any _ _ _ _ _ _).mono ?_; rintro e w' ⟨rfl, hb⟩; obtain ⟨hc0, hf0, hz0⟩ := bl_at hb (k := w.heap.size) (by first | assumption | (simp; done) | (simp; omega)); obtain ⟨hc1, hf1, hz1⟩ := bl_at hb (k := w.heap.size + 1) (by first | assumption | (simp; done) | (simp; omega))) | (go_at_call 51; refine (filings_any _ _ _ _ _ _ _ _ _ _ _ H.out H'.out).mono ?_; rintro e w' ⟨A, cap, rfl, hwr, hb⟩))
    go_ret2
    exact rets_nil rfl (by repeat (first | (with_reducible exact Below.refl _ _) | (with_reducible assumption) | (with_reducible refine bl_alloc ?_ _) | (with_reducible refine bl_drew ?_) | (with_reducible refine bl_drewN ?_ _) | ((with_reducible refine bl_set ?_ ?hb _); (case hb => first | (simp; done) | omega | (simp; omega))) | (with_reducible refine bl_trans ?_ (by assumption)))) _ _
  · have E : ffB a b c d f a' b' c' d' f' = true := by simp [ffB, hc, h, h']
    rw [ffL_yes E, E]
    clear E
    go_enter Try.func31, Try.ntmps31
    go_wp2_with fail; refine (implIsStrike_any _ _ _ _ _ _).mono ?_; rintro e w1 ⟨rfl, hb⟩
    obtain ⟨hc0, hf0, hz0⟩ := bl_at hb (k := w.heap.size) (by first | assumption | (simp; done) | (simp; omega)); obtain ⟨hc1, hf1, hz1⟩ := bl_at hb (k := w.heap.size + 1) (by first | assumption | (simp; done) | (simp; omega))
    go_wp2_with fail; refine (implIsStrike_any _ _ _ _ _ _).mono ?_; rintro e w2 ⟨rfl, hb⟩
    obtain ⟨hc0, hf0, hz0⟩ := bl_at hb (k := w.heap.size) (by first | assumption | (simp; done) | (simp; omega)); obtain ⟨hc1, hf1, hz1⟩ := bl_at hb (k := w.heap.size + 1) (by first | assumption | (simp; done) | (simp; omega))
    go_wp2_with fail
    refine (filings_any _ _ _ _ _ _ _ _ _ _ _ H.out H'.out).mono ?_
    rintro e w3 ⟨A, cap, rfl, hwr, hb3⟩
    have hbb : w.heap.size ≤ w2.heap.size := by omega
    have hw3 : Wr w3 w.heap.size A (difs a b c d f a' b' c' d' f').length (difs a b c d f a' b' c' d' f') := ⟨hwr.1, fun hn => by obtain ⟨g, e1, e2, e3⟩ := hwr.2 hn; exact ⟨g, e1, by omega, e3⟩⟩
    have HW := Lib.hid hw3
    clear hw3 hwr
    go_wp2
    go_ret2
    exact ⟨A, cap, rfl, HW.out, by repeat (first | (with_reducible exact Below.refl _ _) | (with_reducible assumption) | (with_reducible refine bl_alloc ?_ _) | (with_reducible refine bl_drew ?_) | (with_reducible refine bl_drewN ?_ _) | ((with_reducible refine bl_set ?_ ?hb _); (case hb => first | (simp; done) | omega | (simp; omega))) | (with_reducible refine bl_trans ?_ (by assumption)))⟩
set_option maxHeartbeats 1000000 in
theorem specFF_yes (a b c d f a' b' c' d' f' : Int) (w : World) (h : strikeB a b c d f = true) (h' : strikeB a' b' c' d' f' = true) : Calls Try.prog 30 #[.agg #[.int .i64 a, .int .i64 b, .int .i64 c, .int .i64 d, .int .i64 f], .agg #[.int .i64 a', .int .i64 b', .int .i64 c', .int .i64 d', .int .i64 f']] w (RetS (ffL a b c d f a' b' c' d' f') (ffB a b c d f a' b' c' d' f') w) := by
  have H := Lib.hid h
  have H' := Lib.hid h'
  rcases hc : canB a b c d f a' b' c' d' f' with _ | _
  · have E : ffB a b c d f a' b' c' d' f' = false := by simp [ffB, hc]
    rw [ffL_no E, E]
    clear E
    go_enter Try.func30, Try.ntmps30
    go_wp2_with (first | (go_at_call 45; refine (maGood_any _ _ _ _ _ _).mono ?_; rintro e w' ⟨rfl, hb⟩; obtain ⟨hc0, hf0, hz0⟩ := bl_at hb (k := w.heap.size) (by first | assumption | (simp; done) | (simp; omega)); obtain ⟨hc1, hf1, hz1⟩ := bl_at hb (k := w.heap.size + 1) (by first | assumption | (simp; done) | (simp; omega))) | (go_at_call 50; refine (maCan_any _ _ _ _ _ _ _ _ _ _ _ H.out H'.out).mono ?_; rintro e w' ⟨rfl, hb⟩; obtain ⟨hc0, hf0, hz0⟩ := bl_at hb (k := w.heap.size) (by first | assumption | (simp; done) | (simp; omega)); obtain ⟨hc1, hf1, hz1⟩ := bl_at hb (k := w.heap.size + 1) (by first | assumption | (simp; done) | (simp; omega))))
    go_ret2
    exact rets_nil rfl (by repeat (first | (with_reducible exact Below.refl _ _) | (with_reducible assumption) | (with_reducible refine bl_alloc ?_ _) | (with_reducible refine bl_drew ?_) | (with_reducible refine bl_drewN ?_ _) | ((with_reducible refine bl_set ?_ ?hb _); (case hb => first | (simp; done) | omega | (simp; omega))) | (with_reducible refine bl_trans ?_ (by assumption)))) _ _
  · have E : ffB a b c d f a' b' c' d' f' = true := by simp [ffB, hc, h, h']
    rw [ffL_yes E, E]
    clear E
    go_enter Try.func30, Try.ntmps30
    go_wp2_with fail; refine (maGood_any _ _ _ _ _ _).mono ?_; rintro e w1 ⟨rfl, hb⟩
    obtain ⟨hc0, hf0, hz0⟩ := bl_at hb (k := w.heap.size) (by first | assumption | (simp; done) | (simp; omega)); obtain ⟨hc1, hf1, hz1⟩ := bl_at hb (k := w.heap.size + 1) (by first | assumption | (simp; done) | (simp; omega))
    go_wp2_with fail; refine (maGood_any _ _ _ _ _ _).mono ?_; rintro e w2 ⟨rfl, hb⟩
    obtain ⟨hc0, hf0, hz0⟩ := bl_at hb (k := w.heap.size) (by first | assumption | (simp; done) | (simp; omega)); obtain ⟨hc1, hf1, hz1⟩ := bl_at hb (k := w.heap.size + 1) (by first | assumption | (simp; done) | (simp; omega))
    go_wp2_with fail; refine (maCan_any _ _ _ _ _ _ _ _ _ _ _ H.out H'.out).mono ?_; rintro e w4 ⟨rfl, hb⟩
    obtain ⟨hc0, hf0, hz0⟩ := bl_at hb (k := w.heap.size) (by first | assumption | (simp; done) | (simp; omega)); obtain ⟨hc1, hf1, hz1⟩ := bl_at hb (k := w.heap.size + 1) (by first | assumption | (simp; done) | (simp; omega))
    go_wp2_with fail
    refine (maFilings_any _ _ _ _ _ _ _ _ _ _ _ H.out H'.out).mono ?_
    rintro e w3 ⟨A, cap, rfl, hwr, hb3⟩
    have hbb : w.heap.size ≤ w4.heap.size := by omega
    have hw3 : Wr w3 w.heap.size A (difs a b c d f a' b' c' d' f').length (difs a b c d f a' b' c' d' f') := ⟨hwr.1, fun hn => by obtain ⟨g, e1, e2, e3⟩ := hwr.2 hn; exact ⟨g, e1, by omega, e3⟩⟩
    have HW := Lib.hid hw3
    clear hw3 hwr
    go_wp2
    go_ret2
    exact ⟨A, cap, rfl, HW.out, by repeat (first | (with_reducible exact Below.refl _ _) | (with_reducible assumption) | (with_reducible refine bl_alloc ?_ _) | (with_reducible refine bl_drew ?_) | (with_reducible refine bl_drewN ?_ _) | ((with_reducible refine bl_set ?_ ?hb _); (case hb => first | (simp; done) | omega | (simp; omega))) | (with_reducible refine bl_trans ?_ (by assumption)))⟩
theorem specFF_any (a b c d f a' b' c' d' f' : Int) (w : World) : Calls Try.prog 30 #[.agg #[.int .i64 a, .int .i64 b, .int .i64 c, .int .i64 d, .int .i64 f], .agg #[.int .i64 a', .int .i64 b', .int .i64 c', .int .i64 d', .int .i64 f']] w (RetS (ffL a b c d f a' b' c' d' f') (ffB a b c d f a' b' c' d' f') w) := by
  rcases h : strikeB a b c d f with _ | _
  · have E : ffB a b c d f a' b' c' d' f' = false := by simp [ffB, h]
    rw [ffL_no E, E]
    exact specFF_no a b c d f a' b' c' d' f' w (.inl h)
  · rcases h' : strikeB a' b' c' d' f' with _ | _
    · have E : ffB a b c d f a' b' c' d' f' = false := by simp [ffB, h']
      rw [ffL_no E, E]
      exact specFF_no a b c d f a' b' c' d' f' w (.inr ⟨h, h'⟩)
    · exact specFF_yes a b c d f a' b' c' d' f' w h h'
theorem implFF_any (a b c d f a' b' c' d' f' : Int) (w : World) : Calls Try.prog 31 #[.agg #[.int .i64 a, .int .i64 b, .int .i64 c, .int .i64 d, .int .i64 f], .agg #[.int .i64 a', .int .i64 b', .int .i64 c', .int .i64 d', .int .i64 f']] w (RetS (ffL a b c d f a' b' c' d' f') (ffB a b c d f a' b' c' d' f') w) := by
  rcases h : strikeB a b c d f with _ | _
  · have E : ffB a b c d f a' b' c' d' f' = false := by simp [ffB, h]
    rw [ffL_no E, E]
    exact implFF_no a b c d f a' b' c' d' f' w (.inl h)
  · rcases h' : strikeB a' b' c' d' f' with _ | _
    · have E : ffB a b c d f a' b' c' d' f' = false := by simp [ffB, h']
      rw [ffL_no E, E]
      exact implFF_no a b c d f a' b' c' d' f' w (.inr ⟨h, h'⟩)
    · exact implFF_yes a b c d f a' b' c' d' f' w h h'
end Go.Proofs.Ytbklljbjggoiaaa
