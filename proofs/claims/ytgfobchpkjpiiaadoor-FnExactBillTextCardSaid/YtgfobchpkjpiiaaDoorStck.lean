/-
  A font and numbers of types: contracts.
-/
import Derived.Test.YtgfobchpkjpiiaaDoorTy2
namespace Go.Proofs.YtgfobchpkjpiiaaDoor
open Go.RowKit
set_option linter.unusedVariables false
attribute [local go_sem ↓] Go.wp_at_zero Go.wp_at_succ

/-- a font and numbers, as they lie in memory -/
def SI (w : World) (A A' : Option Addr) (n n' : Nat) (xs : List Srt) (ls : List Int) : Prop :=
  Rd cSrt 2 w w.heap.size A n xs ∧ Rd cI 1 w w.heap.size A' n' ls ∧ n ≤ 1048576 ∧ n' ≤ 1048576 ∧ ∀ x ∈ xs, okSrt x
theorem SI.below {w w' : World} {A A' : Option Addr} {n n' : Nat} {xs : List Srt} {ls : List Int} (h : SI w A A' n n' xs ls) (hb : Below w.heap.size w w') : SI w' A A' n n' xs ls :=
  ⟨(h.1.below hb).more hb.size, (h.2.1.below hb).more hb.size, h.2.2⟩
def cntB (xs : List Srt) (ls : List Int) : Bool := decide (ls.length = xs.length) && allIn ls 0 100000
theorem allIn_at {xs : List Int} {lo hi : Int} (h : allIn xs lo hi = true) {k : Nat} {x : Int} (hx : xs[k]? = some x) : lo ≤ x ∧ x ≤ hi :=
  inB_iff.1 (List.all_eq_true.1 h x (List.mem_of_getElem? hx))
theorem cnt_in {xs : List Srt} {ls : List Int} (h : cntB xs ls = true) : ls.length = xs.length ∧ allIn ls 0 100000 = true := by
  unfold cntB at h
  rw [Bool.and_eq_true] at h
  exact ⟨of_decide_eq_true h.1, h.2⟩
theorem font_len {xs : List Srt} (h : fontB xs = true) : 1 ≤ xs.length ∧ xs.length ≤ 32 := by
  unfold fontB at h
  rw [Bool.and_eq_true] at h
  have := inB_iff.1 h.2
  omega
theorem font_each {xs : List Srt} (h : fontB xs = true) {k : Nat} {x : Srt} (hx : xs[k]? = some x) : sortB x = true := by
  have hk := (List.getElem?_eq_some_iff.1 hx).1
  unfold fontB at h
  rw [Bool.and_eq_true] at h
  have := List.all_eq_true.1 h.1 k (List.mem_range.2 hk)
  simp [fontAt, hx] at this
  exact this.1
theorem sort_set {x : Srt} (h : sortB x = true) : 1 ≤ x.set ∧ x.set ≤ 54 := by
  unfold sortB at h
  rw [Bool.and_eq_true] at h
  exact inB_iff.1 h.2
set_option maxHeartbeats 1000000 in
theorem biStock_any (A A' : Option Addr) (n c n' c' : Nat) (xs : List Srt) (ls : List Int) (w : World) (hs : SI w A A' n n' xs ls) :
    Calls Tryd.prog 59 #[.slice A n c, .slice A' n' c'] w fun e w' => e = .returned (.bool (cntB xs ls)) ∧ w = w' := by
  obtain ⟨h1, h2, h3, h4, _⟩ := hs
  have hl := h1.1
  have hl' := h2.1
  by_cases he : n' = n
  · have HE := Lib.hid (show cntB xs ls = allIn ls 0 100000 by unfold cntB; rw [decide_eq_true (by omega), Bool.true_and])
    subst he
    have hbe : ((n' : Int) == (n' : Int)) = true := by simp
    go_enter Tryd.func59, Tryd.ntmps59
    go_wp2_with (go_at_call 70; refine (l1All_any _ _ _ _ ls _ _ _ h2 (by unfold maxLen; omega)).mono ?_; rintro e w' ⟨rfl, rfl⟩)
    go_ret
    exact ⟨ret_bool HE.out.symm, rfl⟩
  · have HE := Lib.hid (show cntB xs ls = false by unfold cntB; rw [decide_eq_false (by omega), Bool.false_and])
    have hbe : ((n' : Int) == (n : Int)) = false := by simp; omega
    go_enter Tryd.func59, Tryd.ntmps59
    go_wp2
    go_ret
    exact ⟨ret_bool HE.out.symm, rfl⟩
set_option maxHeartbeats 1000000 in
theorem areCounts_any (A A' : Option Addr) (n c n' c' : Nat) (xs : List Srt) (ls : List Int) (w : World) (hs : SI w A A' n n' xs ls) :
    Calls Tryd.prog 61 #[.slice A n c, .slice A' n' c'] w fun e w' => e = .returned (.bool (fontB xs && cntB xs ls)) ∧ Below w.heap.size w w' := by
  obtain ⟨h1, h2, h3, h4, h5⟩ := hs
  have hl := h1.1
  have hl' := h2.1
  have HF := Lib.hid (implIsFont_any A n c _ xs w h1 (Nat.le_refl _) h3 h5)
  clear h5
  go_enter Tryd.func61, Tryd.ntmps61
  go_wp2
  go_loop [9] (fun i => ∃ k : Nat, k ≤ n' ∧ i = .int .i64 k ∧ Hid ((ls.take k).all (inB · 0 100000) = true)) (fun i => n' - (intOf i).toNat)
  case atStart => exact ⟨0, Nat.zero_le _, rfl, rfl⟩
  case round =>
    obtain ⟨k, hk, rfl, HA⟩ := hrel
    by_cases hlt : k < n'
    · obtain ⟨b, off, x, rfl, _, hx, hc⟩ := h2.atI hlt
      have HX := Lib.hid hx
      clear hx
      rcases hin : inB x 0 100000 with _ | _
      · have HI := Lib.hid hin
        go_wp2_with (go_at_call 74; refine (within_any _ _ _ _).mono ?_; rw [HI.out]; rintro e w' ⟨rfl, rfl⟩)
        go_ret
        exact ⟨ret_bool (by unfold cntB allIn; rw [all_no (p := (inB · 0 100000)) HX.out HI.out]; simp), by repeat (first | (with_reducible exact Below.refl _ _) | (with_reducible assumption) | (with_reducible refine bl_alloc ?_ _) | (with_reducible refine bl_drew ?_) | (with_reducible refine bl_drewN ?_ _) | ((with_reducible refine bl_set ?_ ?hb _); (case hb => first | (simp; done) | omega | (simp; omega))) | (with_reducible refine bl_trans ?_ (by assumption)))⟩
      · have HI := Lib.hid hin
        go_wp2_with (go_at_call 74; refine (within_any _ _ _ _).mono ?_; rw [HI.out]; rintro e w' ⟨rfl, rfl⟩)
        go_round
        case rel => exact ⟨k + 1, by omega, by go_num, all_snoc (p := (inB · 0 100000)) HX.out HA.out HI.out⟩
        case measure => simp [intOf]; omega
    · obtain rfl : k = n' := by omega
      have HAL := Lib.hid (show allIn ls 0 100000 = true from all_end (by omega) HA.out)
      rcases hF : fontB xs with _ | _
      · have HFF := Lib.hid hF
        clear hF
        go_wp2_with (go_at_call 49; refine HF.out.mono ?_; rw [HFF.out]; rintro e w' ⟨rfl, hb⟩)
        go_ret
        exact ⟨ret_bool (by rw [HFF.out]; rfl), by repeat (first | (with_reducible exact Below.refl _ _) | (with_reducible assumption) | (with_reducible refine bl_alloc ?_ _) | (with_reducible refine bl_drew ?_) | (with_reducible refine bl_drewN ?_ _) | ((with_reducible refine bl_set ?_ ?hb _); (case hb => first | (simp; done) | omega | (simp; omega))) | (with_reducible refine bl_trans ?_ (by assumption)))⟩
      · have HFF := Lib.hid hF
        clear hF
        by_cases he : k = n
        · have HE := Lib.hid (show cntB xs ls = true by unfold cntB; rw [decide_eq_true (by omega), HAL.out]; rfl)
          have hbe : ((k : Int) == (n : Int)) = true := by simp; omega
          go_wp2_with (go_at_call 49; refine HF.out.mono ?_; rw [HFF.out]; rintro e w' ⟨rfl, hb⟩)
          go_ret
          exact ⟨ret_bool (by rw [HE.out, HFF.out]; rfl), by repeat (first | (with_reducible exact Below.refl _ _) | (with_reducible assumption) | (with_reducible refine bl_alloc ?_ _) | (with_reducible refine bl_drew ?_) | (with_reducible refine bl_drewN ?_ _) | ((with_reducible refine bl_set ?_ ?hb _); (case hb => first | (simp; done) | omega | (simp; omega))) | (with_reducible refine bl_trans ?_ (by assumption)))⟩
        · have HE := Lib.hid (show cntB xs ls = false by unfold cntB; rw [decide_eq_false (by omega)]; rfl)
          have hbe : ((k : Int) == (n : Int)) = false := by simp; omega
          go_wp2_with (go_at_call 49; refine HF.out.mono ?_; rw [HFF.out]; rintro e w' ⟨rfl, hb⟩)
          go_ret
          exact ⟨ret_bool (by rw [HE.out, HFF.out]; rfl), by repeat (first | (with_reducible exact Below.refl _ _) | (with_reducible assumption) | (with_reducible refine bl_alloc ?_ _) | (with_reducible refine bl_drew ?_) | (with_reducible refine bl_drewN ?_ _) | ((with_reducible refine bl_set ?_ ?hb _); (case hb => first | (simp; done) | omega | (simp; omega))) | (with_reducible refine bl_trans ?_ (by assumption)))⟩
end Go.Proofs.YtgfobchpkjpiiaaDoor
