/-
  Contracts of SharesOf and the law's walk.
-/
import Derived.Test.YtnhdgjcobngolaaMe3
import Derived.Test.YtnhdgjcobngolaaSlc
namespace Go.Proofs.Ytnhdgjcobngolaa
open Go.RowKit
set_option linter.unusedVariables false
attribute [local go_sem ↓] Go.wp_at_zero Go.wp_at_succ

def shList (l t a : Int) : List Int := if metalB l t a then [1000 * l / (l + t + a), 1000 * t / (l + t + a), 1000 * a / (l + t + a)] else []
def shOf (l t a : Int) (k : Nat) : List Int := ([l, t, a].take k).map fun x => 1000 * x / (l + t + a)
theorem shOf_snoc {l t a x : Int} {k : Nat} (h : [l, t, a][k]? = some x) : (shOf l t a (k + 1)).map (Value.int .i64) = (shOf l t a k).map (Value.int .i64) ++ [.int .i64 (1000 * x / (l + t + a))] := by
  unfold shOf
  rw [take_snoc h]
  simp
theorem shList_no {l t a : Int} (h : metalB l t a = false) : shList l t a = [] := by simp [shList, h]
theorem shList_yes {l t a : Int} (h : metalB l t a = true) : shList l t a = [1000 * l / (l + t + a), 1000 * t / (l + t + a), 1000 * a / (l + t + a)] := by simp [shList, h]
theorem quot_bd {x S : Int} (h0 : 0 ≤ x) (h1 : x ≤ 1000000000) (hS : 0 < S) : 0 ≤ x / S ∧ x / S ≤ 1000000000 := by
  refine ⟨Int.ediv_nonneg h0 (by omega), ?_⟩
  have := Int.ediv_le_self S h0
  omega
theorem rets_nil {w w' : World} {xs : List Int} {b : Bool} (h : xs = []) (hb : Below w.heap.size w w') (A : Option Addr) (c : Nat) : RetS xs b w (.returned (.tuple #[.slice A 0 c, .bool b])) w' := by
  subst h
  exact ⟨A, c, rfl, ⟨rfl, fun hn => absurd hn (by simp)⟩, hb⟩
set_option maxHeartbeats 400000 in
theorem implSharesOf_no (l t a : Int) (w : World) (h : metalB l t a = false) : Calls Try.prog 30 #[.agg #[.int .i64 l, .int .i64 t, .int .i64 a]] w (RetS (shList l t a) (metalB l t a) w) := by
  rw [h, shList_no h]
  go_enter Try.func30, Try.ntmps30
  go_wp2_with (go_at_call 52; refine (isMetal_any _ _ _ _).mono ?_; rintro e w' ⟨rfl, hb⟩; obtain ⟨hc0, hf0, hz0⟩ := bl_at hb (k := w.heap.size) (by first | assumption | (simp; done) | (simp; omega)))
  go_ret2
  exact rets_nil rfl (by repeat (first | (with_reducible exact Below.refl _ _) | (with_reducible assumption) | (with_reducible refine bl_alloc ?_ _) | (with_reducible refine bl_drew ?_) | (with_reducible refine bl_drewN ?_ _) | ((with_reducible refine bl_set ?_ ?hb _); (case hb => first | (simp; done) | omega | (simp; omega))) | (with_reducible refine bl_trans ?_ (by assumption)))) _ _
set_option maxHeartbeats 400000 in
theorem implSharesOf_yes (l t a : Int) (w : World) (h : metalB l t a = true) : Calls Try.prog 30 #[.agg #[.int .i64 l, .int .i64 t, .int .i64 a]] w (RetS (shList l t a) (metalB l t a) w) := by
  rw [h, shList_yes h]
  have hm : meltB l t a = true ∧ 0 < l + t + a := by simpa [metalB] using h
  obtain ⟨hm, hS⟩ := hm
  obtain ⟨⟨h1, h2⟩, ⟨h3, h4⟩, h5, h6⟩ := melt_iff.1 hm
  have HM := Lib.hid hm
  clear hm
  go_enter Try.func30, Try.ntmps30
  go_wp2_with (first | (go_at_call 52; refine (isMetal_any _ _ _ _).mono ?_; rintro e w' ⟨rfl, hb⟩; obtain ⟨hc0, hf0, hz0⟩ := bl_at hb (k := w.heap.size) (by first | assumption | (simp; done) | (simp; omega))) | (go_at_call 45; refine (grams_any _ _ _ _ HM.out).mono ?_; rintro e w' ⟨rfl, hb⟩; obtain ⟨hc0, hf0, hz0⟩ := bl_at hb (k := w.heap.size) (by first | assumption | (simp; done) | (simp; omega))))
  have e1 : IntKind.i64.wrap (1000 * l) = 1000 * l := IntWalk.i64_in _ (by omega)
  have e2 : IntKind.i64.wrap (1000 * t) = 1000 * t := IntWalk.i64_in _ (by omega)
  have e3 : IntKind.i64.wrap (1000 * a) = 1000 * a := IntWalk.i64_in _ (by omega)
  have q1 : (1000 * l).tdiv (l + t + a) = 1000 * l / (l + t + a) := Int.tdiv_eq_ediv_of_nonneg (by omega)
  have q2 : (1000 * t).tdiv (l + t + a) = 1000 * t / (l + t + a) := Int.tdiv_eq_ediv_of_nonneg (by omega)
  have q3 : (1000 * a).tdiv (l + t + a) = 1000 * a / (l + t + a) := Int.tdiv_eq_ediv_of_nonneg (by omega)
  have b1 := quot_bd (x := 1000 * l) (S := l + t + a) (by omega) (by omega) hS
  have b2 := quot_bd (x := 1000 * t) (S := l + t + a) (by omega) (by omega) hS
  have b3 := quot_bd (x := 1000 * a) (S := l + t + a) (by omega) (by omega) hS
  have r1 : IntKind.i64.wrap (1000 * l / (l + t + a)) = 1000 * l / (l + t + a) := IntWalk.i64_in _ (by omega)
  have r2 : IntKind.i64.wrap (1000 * t / (l + t + a)) = 1000 * t / (l + t + a) := IntWalk.i64_in _ (by omega)
  have r3 : IntKind.i64.wrap (1000 * a / (l + t + a)) = 1000 * a / (l + t + a) := IntWalk.i64_in _ (by omega)
  have hne : l + t + a ≠ 0 := by omega
  go_region_held3 (fun w' => w'.cell? ⟨w.heap.size, 0, none⟩ = some (.int .i64 l) ∧ w'.cell? ⟨w.heap.size, 1, none⟩ = some (.int .i64 t) ∧ w'.cell? ⟨w.heap.size, 2, none⟩ = some (.int .i64 a)) (go_keep) (fail)
  clear e1 e2 e3 q1 q2 q3 r1 r2 r3
  go_wp2
  go_ret2
  exact ⟨_, _, rfl, (wr_new (by omega) _ _ _ rfl).drew, by repeat (first | (with_reducible exact Below.refl _ _) | (with_reducible assumption) | (with_reducible refine bl_alloc ?_ _) | (with_reducible refine bl_drew ?_) | (with_reducible refine bl_drewN ?_ _) | ((with_reducible refine bl_set ?_ ?hb _); (case hb => first | (simp; done) | omega | (simp; omega))) | (with_reducible refine bl_trans ?_ (by assumption)))⟩
theorem implSharesOf_any (l t a : Int) (w : World) : Calls Try.prog 30 #[.agg #[.int .i64 l, .int .i64 t, .int .i64 a]] w (RetS (shList l t a) (metalB l t a) w) := by
  rcases h : metalB l t a with _ | _
  · have := implSharesOf_no l t a w h; rwa [h] at this
  · have := implSharesOf_yes l t a w h; rwa [h] at this
theorem infoI : (Try.prog.info? 3).map (fun i => (i.zero, i.size, i.bytes)) = some (some (.int .i64 0), 1, 8) := by kernel_rfl
set_option maxHeartbeats 400000 in
theorem specSharesOf_no (l t a : Int) (w : World) (h : metalB l t a = false) : Calls Try.prog 29 #[.agg #[.int .i64 l, .int .i64 t, .int .i64 a]] w (RetS (shList l t a) (metalB l t a) w) := by
  rw [h, shList_no h]
  by_cases hm : meltB l t a = true
  · have hS : ¬ 0 < l + t + a := by simpa [metalB, hm] using h
    obtain ⟨⟨h1, h2⟩, ⟨h3, h4⟩, h5, h6⟩ := melt_iff.1 hm
    have HM := Lib.hid hm
    have hz : (l + t + a == 0) = true := by simp; omega
    go_enter Try.func29, Try.ntmps29
    go_wp2_with (first | (go_at_call 42; refine (meGood_any _ _ _ _).mono ?_; rintro e w' ⟨rfl, hb⟩; obtain ⟨hc0, hf0, hz0⟩ := bl_at hb (k := w.heap.size) (by first | assumption | (simp; done) | (simp; omega))) | (go_at_call 44; refine (meGrams_any _ _ _ _ HM.out).mono ?_; rintro e w' ⟨rfl, hb⟩; obtain ⟨hc0, hf0, hz0⟩ := bl_at hb (k := w.heap.size) (by first | assumption | (simp; done) | (simp; omega))))
    go_ret2
    exact rets_nil rfl (by repeat (first | (with_reducible exact Below.refl _ _) | (with_reducible assumption) | (with_reducible refine bl_alloc ?_ _) | (with_reducible refine bl_drew ?_) | (with_reducible refine bl_drewN ?_ _) | ((with_reducible refine bl_set ?_ ?hb _); (case hb => first | (simp; done) | omega | (simp; omega))) | (with_reducible refine bl_trans ?_ (by assumption)))) _ _
  · have hm' : meltB l t a = false := by simpa using hm
    clear hm
    go_enter Try.func29, Try.ntmps29
    go_wp2_with (first | (go_at_call 42; refine (meGood_any _ _ _ _).mono ?_; rintro e w' ⟨rfl, hb⟩; obtain ⟨hc0, hf0, hz0⟩ := bl_at hb (k := w.heap.size) (by first | assumption | (simp; done) | (simp; omega))))
    go_ret2
    exact rets_nil rfl (by repeat (first | (with_reducible exact Below.refl _ _) | (with_reducible assumption) | (with_reducible refine bl_alloc ?_ _) | (with_reducible refine bl_drew ?_) | (with_reducible refine bl_drewN ?_ _) | ((with_reducible refine bl_set ?_ ?hb _); (case hb => first | (simp; done) | omega | (simp; omega))) | (with_reducible refine bl_trans ?_ (by assumption)))) _ _
set_option maxHeartbeats 400000 in
theorem specSharesOf_yes (l t a : Int) (w : World) (h : metalB l t a = true) : Calls Try.prog 29 #[.agg #[.int .i64 l, .int .i64 t, .int .i64 a]] w (RetS (shList l t a) (metalB l t a) w) := by
  rw [h, shList_yes h]
  have hm : meltB l t a = true ∧ 0 < l + t + a := by simpa [metalB] using h
  obtain ⟨hm, hS⟩ := hm
  obtain ⟨⟨h1, h2⟩, ⟨h3, h4⟩, h5, h6⟩ := melt_iff.1 hm
  have HM := Lib.hid hm
  have hz : (l + t + a == 0) = false := by simp; omega
  obtain ⟨i0, hi0, hi1, hi2, hi3⟩ := info_parts infoI
  go_enter Try.func29, Try.ntmps29
  go_wp2_with fail; refine (meGood_any _ _ _ _).mono ?_; rintro e w1 ⟨rfl, hb⟩
  obtain ⟨hc0, hf0, hz0⟩ := bl_at hb (k := w.heap.size) (by first | assumption | (simp; done) | (simp; omega))
  go_wp2_with fail; refine (meGrams_any _ _ _ _ HM.out).mono ?_; rintro e w2 ⟨rfl, hb⟩
  obtain ⟨hc0, hf0, hz0⟩ := bl_at hb (k := w.heap.size) (by first | assumption | (simp; done) | (simp; omega))
  go_wp2_with (go_at_call 54; refine (meParts_any _ _ _ _).mono ?_; rintro e w' ⟨rfl, rfl⟩)
  obtain ⟨W, hW⟩ : ∃ W, W = (w2.alloc (.cells #[.int .i64 l, .int .i64 t, .int .i64 a] 32)).alloc (.cells #[.int .i64 l, .int .i64 t, .int .i64 a] 3) := ⟨_, rfl⟩
  have hr : Rd cI 1 W (w2.heap.size + 1 + 1) (some ⟨w2.heap.size + 1, 0, none⟩) 3 [l, t, a] := by rw [hW]; exact rd3 _ l t a _ _ (by simp)
  have d0 : W.cell? ⟨w.heap.size, 0, none⟩ = some (.int .i64 l) := by rw [hW]; go_simp
  have d1 : W.cell? ⟨w.heap.size, 1, none⟩ = some (.int .i64 t) := by rw [hW]; go_simp
  have d2 : W.cell? ⟨w.heap.size, 2, none⟩ = some (.int .i64 a) := by rw [hW]; go_simp
  have hsz : w2.heap.size + 1 + 1 ≤ W.heap.size := by rw [hW]; simp
  have hbW : Below w.heap.size w W := by rw [hW]; exact by repeat (first | (with_reducible exact Below.refl _ _) | (with_reducible assumption) | (with_reducible refine bl_alloc ?_ _) | (with_reducible refine bl_drew ?_) | (with_reducible refine bl_drewN ?_ _) | ((with_reducible refine bl_set ?_ ?hb _); (case hb => first | (simp; done) | omega | (simp; omega))) | (with_reducible refine bl_trans ?_ (by assumption)))
  rw [← hW]
  clear hW hc0 hf0 hb
  go_loopw [4, 6, 18] (fun s _ i wr => ∃ k : Nat, k ≤ 3 ∧ i = .int .i64 k ∧ wr.ownsRow W.heap.size 3 1 s k ((shOf l t a k).map (Value.int .i64)) ∧ Below W.heap.size W wr) (fun _ _ i _ => 3 - (intOf i).toNat)
  case atStart => exact ⟨0, by omega, rfl, World.ownsRow_nil _ _ _ _, Below.refl _ _⟩
  case round =>
    obtain ⟨k, hk, rfl, hown, hbl⟩ := hrel
    by_cases hlt : k < 3
    · obtain ⟨b, off, x, hA, _, hx, hc⟩ := (hr.below (hbl.mono hsz)).atI hlt
      obtain ⟨rfl, rfl⟩ : w2.heap.size + 1 = b ∧ 0 = off := by simpa using hA
      rw [Nat.zero_add] at hc
      have hx01 : 0 ≤ x ∧ x ≤ 1000000 := by
        match k, hx with
        | 0, hx => simp at hx; omega
        | 1, hx => simp at hx; omega
        | 2, hx => simp at hx; omega
      obtain ⟨x0, x1⟩ := hx01
      obtain ⟨q0, q1⟩ := quot_bd (x := 1000 * x) (S := l + t + a) (by omega) (by omega) hS
      have HX := Lib.hid hx
      clear hx hA
      obtain ⟨hc0, hf0, hz0⟩ := bl_at hbl (k := w.heap.size) (by omega)
      go_wp2_with fail
      refine (meGrams_any _ _ _ _ HM.out).mono ?_; rintro e w4 ⟨rfl, hb4⟩
      have hown4 := own_below hown hb4
      go_wp2_with (at_builtin; refine wpList_append_own _ rfl _ _ 46 rfl W.heap.size 3 i0 (.int .i64 0) 1 8 Try.underlying46 hi0 hi1 hi2 hi3 rfl (by decide) _ _ _ rfl (hown4.alloc _) ⟨w4.heap.size, 0, none⟩ 1 1 [.int .i64 (1000 * x / (l + t + a))] rfl rfl ?c1 ?c2 ?c3 ?c4 ?c5 ?_)
      case c1 => exact cell_one_new _ _ _
      case c2 => intro u hu; simp at hu; subst hu; rfl
      case c3 => unfold maxLen; omega
      case c4 => omega
      case c5 => have := hbl.size; have := hb4.size; simp; omega
      intro v' w5 hown5 hg5 _
      have hbl5 : Below W.heap.size W w5 := below_own ((bl_trans hbl hb4).alloc (by have := hbl.size; have := hb4.size; omega) _) hg5 (fun g hg => (hown4.lt g hg).1) (by have := hbl.size; have := hb4.size; simp; omega)
      clear hg5 hown hown4
      go_wp2
      go_roundw
      case rel =>
        refine ⟨k + 1, by omega, by go_num, ?_, hbl5⟩
        rw [shOf_snoc HX.out]
        exact hown5
      case measure => simp [intOf]; omega
    · obtain rfl : k = 3 := by omega
      obtain ⟨A, c, rfl, hwr⟩ := own_wr (own_base hown (base' := w.heap.size) (by omega))
      go_wp2
      go_ret2
      exact ⟨A, c, rfl, hwr, bl_trans hbW hbl⟩
theorem specSharesOf_any (l t a : Int) (w : World) : Calls Try.prog 29 #[.agg #[.int .i64 l, .int .i64 t, .int .i64 a]] w (RetS (shList l t a) (metalB l t a) w) := by
  rcases h : metalB l t a with _ | _
  · have := specSharesOf_no l t a w h; rwa [h] at this
  · have := specSharesOf_yes l t a w h; rwa [h] at this
theorem shList_len (l t a : Int) : (shList l t a).length ≤ 1000000000 := by
  unfold shList
  split <;> simp
set_option maxHeartbeats 1000000 in
theorem lawSharesOf (l t a : Int) (w : World) (_ : I64 l) (_ : I64 t) (_ : I64 a) : Calls Try.prog 10 #[.agg #[.int .i64 l, .int .i64 t, .int .i64 a]] w fun e w' => e = .returned (.bool (true)) ∧ Below w.heap.size w w' := by
  have hn := shList_len l t a
  have H1 := Lib.hid (fun W => specSharesOf_any l t a W)
  have H2 := Lib.hid (fun W => implSharesOf_any l t a W)
  obtain ⟨xs, hxs⟩ : ∃ xs, xs = shList l t a := ⟨_, rfl⟩
  obtain ⟨b, hb⟩ : ∃ b, b = metalB l t a := ⟨_, rfl⟩
  rw [← hxs, ← hb] at H1 H2
  rw [← hxs] at hn
  clear hxs hb
  have heq := Lib.hid (eqL_same xs)
  go_enter Try.func10, Try.ntmps10
  go_wp2_with fail; refine (toMelt_any _ _ _ _).mono ?_; rintro e w1 ⟨rfl, hb⟩
  obtain ⟨hc0, hf0, hz0⟩ := bl_at hb (k := w.heap.size) (by first | assumption | (simp; done) | (simp; omega))
  go_wp2_with fail
  refine (H1.out _).mono ?_; rintro e w2 ⟨A, c, rfl, hw0, hb⟩
  obtain ⟨hc0, hf0, hz0⟩ := bl_at hb (k := w.heap.size) (by first | assumption | (simp; done) | (simp; omega))
  go_wp2_with fail; refine (toMelt_any _ _ _ _).mono ?_; rintro e w3 ⟨rfl, hb3⟩
  have hb := hb3
  obtain ⟨hc0, hf0, hz0⟩ := bl_at hb (k := w.heap.size) (by first | assumption | (simp; done) | (simp; omega))
  go_wp2_with fail
  refine (H2.out _).mono ?_; rintro e w4 ⟨A', c', rfl, hg0, hb4⟩
  have hb := hb4
  obtain ⟨hc0, hf0, hz0⟩ := bl_at hb (k := w.heap.size) (by first | assumption | (simp; done) | (simp; omega))
  have hB4 : Below w.heap.size w w4 := by repeat (first | (with_reducible exact Below.refl _ _) | (with_reducible assumption) | (with_reducible refine bl_alloc ?_ _) | (with_reducible refine bl_drew ?_) | (with_reducible refine bl_drewN ?_ _) | ((with_reducible refine bl_set ?_ ?hb _); (case hb => first | (simp; done) | omega | (simp; omega))) | (with_reducible refine bl_trans ?_ (by assumption)))
  have r4 := (hw0.rd.below hb3).below (hb4.mono hb3.size)
  go_wp2_with fail
  refine (eqIntS_any _ _ _ _ _ _ _ _ xs xs _ hg0.rd r4 (by unfold maxLen; omega) (by unfold maxLen; omega)).mono ?_
  rintro e w5 ⟨rfl, m, rfl⟩
  rw [heq.out]
  go_wp2_with fail
  refine (markIntS_any _ _ _ _ _ _ _ (show Wr (w4.drewN m) w3.heap.size A' xs.length xs from hg0) hn (by omega) (by omega)).mono ?_
  rintro e w6 ⟨rfl, hg6, hb6, hs6⟩
  obtain ⟨hc0, hf0, hz0⟩ := bl_to hb6 (k := w.heap.size) (by assumption) hb4.size
  have r6 := (show Rd cI 1 (w4.drewN m) w2.heap.size A xs.length xs from r4).below (hb6.mono hb3.size)
  have hB6 : Below w.heap.size w w6 := (bl_drewN hB4 m).trans (hb6.mono (by omega))
  have HS6 := Lib.hid hs6
  clear hs6
  go_wp2_with fail
  refine (heldIntS_any _ _ _ _ _ _ hg6.rd hn (by omega) (by omega)).mono ?_
  rintro e w7 ⟨rfl, rfl⟩
  go_wp2_with fail; refine (toMelt_any _ _ _ _).mono ?_; rintro e w7 ⟨rfl, hb7⟩
  go_wp2_with fail
  refine (H2.out _).mono ?_; rintro e w8 ⟨A'', c'', rfl, hh0, hb8⟩
  have hsz2 : w2.heap.size ≤ w6.heap.size := by have h1 := hb3.size; have h2 := hb4.size; have h3 := HS6.out; have h4 : (w4.drewN m).heap.size = w4.heap.size := rfl; omega
  have r8 := (r6.below (hb7.mono hsz2)).below (hb8.mono (Nat.le_trans hsz2 hb7.size))
  have g8 := (hg6.below hb7).below hb8
  go_wp2_with fail
  refine (eqIntS_any _ _ _ _ _ _ _ _ xs xs _ hh0.rd r8 (by unfold maxLen; omega) (by unfold maxLen; omega)).mono ?_
  rintro e w9 ⟨rfl, m', rfl⟩
  rw [heq.out]
  go_wp2_with fail
  refine (heldIntS_any _ _ _ _ _ _ (show Rd cI 1 (w8.drewN m') w8.heap.size A' xs.length (upFrom 1 xs.length) from g8.rd) hn (by omega) (by omega)).mono ?_
  rintro e w10 ⟨rfl, rfl⟩
  go_wp2
  go_ret
  exact ⟨rfl, by repeat (first | (with_reducible exact Below.refl _ _) | (with_reducible assumption) | (with_reducible refine bl_alloc ?_ _) | (with_reducible refine bl_drew ?_) | (with_reducible refine bl_drewN ?_ _) | ((with_reducible refine bl_set ?_ ?hb _); (case hb => first | (simp; done) | omega | (simp; omega))) | (with_reducible refine bl_trans ?_ (by assumption)))⟩
end Go.Proofs.Ytnhdgjcobngolaa
