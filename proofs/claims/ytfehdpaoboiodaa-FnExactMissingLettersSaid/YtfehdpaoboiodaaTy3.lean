/-
  The sort of a code: contracts; the law's walk of SetOfCode.
-/
import Derived.Test.YtfehdpaoboiodaaTy2
import Derived.Test.YtfehdpaoboiodaaFnd
namespace Go.Proofs.Ytfehdpaoboiodaa
open Go.RowKit
set_option linter.unusedVariables false
attribute [local go_sem ↓] Go.wp_at_zero Go.wp_at_succ

def codeB (s : ByteArray) (x : Srt) : Bool := x.code.toList == s.toList
set_option maxHeartbeats 1000000 in
theorem tyFind_any (A : Option Addr) (n c B : Nat) (xs : List Srt) (s : ByteArray) (w : World) (hr : Rd cSrt 2 w B A n xs) (hB : B ≤ w.heap.size) (hn : n ≤ 1048576) :
    Calls Try.prog 48 #[.slice A n c, .string s] w fun e w' => e = .returned (.int .i64 (findI (codeB s) xs)) ∧ Below w.heap.size w w' := by
  have hl := hr.1
  go_enter Try.func48, Try.ntmps48
  go_wp2
  go_loopw [9] (fun i wr => ∃ k : Nat, k ≤ n ∧ i = .int .i64 k ∧ Below w.heap.size w wr ∧ Hid ((xs.take k).all (fun y => !codeB s y) = true)) (fun i _ => n - (intOf i).toNat)
  case atStart => exact ⟨0, Nat.zero_le _, rfl, Below.refl _ _, rfl⟩
  case round =>
    obtain ⟨k, hk, rfl, hb, HA⟩ := hrel
    by_cases hlt : k < n
    · obtain ⟨b, off, x, rfl, hbB, hx, c0, c1⟩ := (hr.below (hb.mono hB)).atSrt hlt
      have HX := Lib.hid hx
      have HB := Lib.hid hb
      clear hx hb
      rcases hin : (x.code.toList == s.toList) with _ | _
      · have HI := Lib.hid (show (!codeB s x) = true by rw [codeB, hin]; rfl)
        go_wp2
        go_roundw
        case rel => exact ⟨k + 1, by omega, by go_num, bl_trans HB.out (bl_alloc (Below.refl _ _) _), all_snoc (p := fun y => !codeB s y) HX.out HA.out HI.out⟩
        case measure => simp [intOf]; omega
      · have HI := Lib.hid (show codeB s x = true from hin)
        go_wp2
        go_ret
        exact ⟨ret_int (find_hit HX.out HI.out HA.out).symm, bl_trans HB.out (bl_alloc (Below.refl _ _) _)⟩
    · have HE := Lib.hid (find_none (by omega) HA.out)
      go_wp2
      go_ret
      exact ⟨ret_int HE.out.symm, hb⟩
set_option maxHeartbeats 1000000 in
theorem sortAt_any (A : Option Addr) (n c B : Nat) (xs : List Srt) (s : ByteArray) (w : World) (hr : Rd cSrt 2 w B A n xs) (hB : B ≤ w.heap.size) (hn : n ≤ 1048576) :
    Calls Try.prog 49 #[.slice A n c, .string s] w fun e w' => e = .returned (.int .i64 (findI (codeB s) xs)) ∧ Below w.heap.size w w' := by
  have hl := hr.1
  go_enter Try.func49, Try.ntmps49
  go_wp2
  go_loopw [9] (fun i wr => ∃ k : Nat, k ≤ n ∧ i = .int .i64 k ∧ Below w.heap.size w wr ∧ Hid ((xs.take k).all (fun y => !codeB s y) = true)) (fun i _ => n - (intOf i).toNat)
  case atStart => exact ⟨0, Nat.zero_le _, rfl, Below.refl _ _, rfl⟩
  case round =>
    obtain ⟨k, hk, rfl, hb, HA⟩ := hrel
    by_cases hlt : k < n
    · obtain ⟨b, off, x, rfl, hbB, hx, c0, c1⟩ := (hr.below (hb.mono hB)).atSrt hlt
      have HX := Lib.hid hx
      have HB := Lib.hid hb
      clear hx hb
      rcases hin : (x.code.toList == s.toList) with _ | _
      · have HI := Lib.hid (show (!codeB s x) = true by rw [codeB, hin]; rfl)
        go_wp2
        go_roundw
        case rel => exact ⟨k + 1, by omega, by go_num, bl_trans HB.out (bl_alloc (Below.refl _ _) _), all_snoc (p := fun y => !codeB s y) HX.out HA.out HI.out⟩
        case measure => simp [intOf]; omega
      · have HI := Lib.hid (show codeB s x = true from hin)
        go_wp2
        go_ret
        exact ⟨ret_int (find_hit HX.out HI.out HA.out).symm, bl_trans HB.out (bl_alloc (Below.refl _ _) _)⟩
    · have HE := Lib.hid (find_none (by omega) HA.out)
      go_wp2
      go_ret
      exact ⟨ret_int HE.out.symm, hb⟩
/-! ### SetOfCode -/
def socB (xs : List Srt) (s : ByteArray) : Bool := fontB xs && decide (0 ≤ findI (codeB s) xs)
def socV (xs : List Srt) (s : ByteArray) : Int := match xs[(findI (codeB s) xs).toNat]? with | some x => x.set | none => 0
set_option maxHeartbeats 1000000 in
theorem specSoC_any (A : Option Addr) (n c B : Nat) (xs : List Srt) (s : ByteArray) (w : World) (hr : Rd cSrt 2 w B A n xs) (hB : B ≤ w.heap.size) (hn : n ≤ 1048576) (hok : ∀ x ∈ xs, okSrt x) :
    Calls Try.prog 22 #[.slice A n c, .string s] w (PairB (oV (socB xs s) (socV xs s)) (socB xs s) w) := by
  have hl := hr.1
  have HOK := Lib.hid hok
  have HF := Lib.hid (fun (W : World) (h : Below w.heap.size w W) => tyFont_any A n c _ xs W (hr.below (h.mono hB)) (Nat.le_trans hB h.size) hn hok)
  clear hok
  rcases hF : fontB xs with _ | _
  · have E := Lib.hid (show socB xs s = false by simp [socB, hF])
    have HFF := Lib.hid hF
    clear hF
    go_enter Try.func22, Try.ntmps22
    go_wp2_with fail
    refine (tyFind_any _ _ _ _ xs s _ hr hB hn).mono ?_
    rintro e w1 ⟨rfl, hb1⟩
    go_wp2_with fail
    refine (HF.out _ hb1).mono ?_
    rw [HFF.out]
    rintro e w2 ⟨rfl, hb2⟩
    go_wp2
    go_ret2
    exact pair_b (oV_no E.out).symm E.out.symm (by repeat (first | (with_reducible exact Below.refl _ _) | (with_reducible assumption) | (with_reducible refine bl_alloc ?_ _) | (with_reducible refine bl_drew ?_) | (with_reducible refine bl_drewN ?_ _) | ((with_reducible refine bl_set ?_ ?hb _); (case hb => first | (simp; done) | omega | (simp; omega))) | (with_reducible refine bl_trans ?_ (by assumption))))
  · have HFF := Lib.hid hF
    rcases find_cases (codeB s) xs with h | ⟨k, x, h, hk, hx, _⟩
    · have E := Lib.hid (show socB xs s = false by simp [socB, h])
      have H := Lib.hid h
      clear hF h
      go_enter Try.func22, Try.ntmps22
      go_wp2_with fail
      refine (tyFind_any _ _ _ _ xs s _ hr hB hn).mono ?_
      rw [H.out]
      rintro e w1 ⟨rfl, hb1⟩
      go_wp2_with fail
      refine (HF.out _ hb1).mono ?_
      rw [HFF.out]
      rintro e w2 ⟨rfl, hb2⟩
      go_wp2
      go_ret2
      exact pair_b (oV_no E.out).symm E.out.symm (by repeat (first | (with_reducible exact Below.refl _ _) | (with_reducible assumption) | (with_reducible refine bl_alloc ?_ _) | (with_reducible refine bl_drew ?_) | (with_reducible refine bl_drewN ?_ _) | ((with_reducible refine bl_set ?_ ?hb _); (case hb => first | (simp; done) | omega | (simp; omega))) | (with_reducible refine bl_trans ?_ (by assumption))))
    · have E := Lib.hid (show socB xs s = true by simp [socB, h, hF])
      have EV := Lib.hid (show socV xs s = x.set by simp [socV, h, hx])
      have H := Lib.hid h
      have HX := Lib.hid hx
      clear hF h hx
      go_enter Try.func22, Try.ntmps22
      go_wp2_with fail
      refine (tyFind_any _ _ _ _ xs s _ hr hB hn).mono ?_
      rw [H.out]
      rintro e w1 ⟨rfl, hb1⟩
      go_wp2_with fail
      refine (HF.out _ hb1).mono ?_
      rw [HFF.out]
      rintro e w2 ⟨rfl, hb2⟩
      have hB2 : Below w.heap.size w w2 := by repeat (first | (with_reducible exact Below.refl _ _) | (with_reducible assumption) | (with_reducible refine bl_alloc ?_ _) | (with_reducible refine bl_drew ?_) | (with_reducible refine bl_drewN ?_ _) | ((with_reducible refine bl_set ?_ ?hb _); (case hb => first | (simp; done) | omega | (simp; omega))) | (with_reducible refine bl_trans ?_ (by assumption)))
      obtain ⟨b, off, y, rfl, hbB, hy, c0, c1⟩ := (hr.below (hB2.mono hB)).atSrt (show k < n by omega)
      obtain rfl : x = y := by rw [HX.out] at hy; exact Option.some.inj hy
      clear hy
      have i0 : (0 : Int) ≤ (k : Int) := by omega
      have i1 : (k : Int) < (n : Int) := by omega
      go_wp2
      go_ret2
      exact pair_b (by rw [oV_yes E.out, EV.out]) E.out.symm hB2
set_option maxHeartbeats 1000000 in
theorem implSoC_any (A : Option Addr) (n c B : Nat) (xs : List Srt) (s : ByteArray) (w : World) (hr : Rd cSrt 2 w B A n xs) (hB : B ≤ w.heap.size) (hn : n ≤ 1048576) (hok : ∀ x ∈ xs, okSrt x) :
    Calls Try.prog 23 #[.slice A n c, .string s] w (PairB (oV (socB xs s) (socV xs s)) (socB xs s) w) := by
  have hl := hr.1
  have HOK := Lib.hid hok
  have HF := Lib.hid (fun (W : World) (h : Below w.heap.size w W) => implIsFont_any A n c _ xs W (hr.below (h.mono hB)) (Nat.le_trans hB h.size) hn hok)
  clear hok
  rcases hF : fontB xs with _ | _
  · have E := Lib.hid (show socB xs s = false by simp [socB, hF])
    have HFF := Lib.hid hF
    clear hF
    go_enter Try.func23, Try.ntmps23
    go_wp2_with fail
    refine (sortAt_any _ _ _ _ xs s _ hr hB hn).mono ?_
    rintro e w1 ⟨rfl, hb1⟩
    go_wp2_with fail
    refine (HF.out _ hb1).mono ?_
    rw [HFF.out]
    rintro e w2 ⟨rfl, hb2⟩
    go_wp2
    go_ret2
    exact pair_b (oV_no E.out).symm E.out.symm (by repeat (first | (with_reducible exact Below.refl _ _) | (with_reducible assumption) | (with_reducible refine bl_alloc ?_ _) | (with_reducible refine bl_drew ?_) | (with_reducible refine bl_drewN ?_ _) | ((with_reducible refine bl_set ?_ ?hb _); (case hb => first | (simp; done) | omega | (simp; omega))) | (with_reducible refine bl_trans ?_ (by assumption))))
  · have HFF := Lib.hid hF
    rcases find_cases (codeB s) xs with h | ⟨k, x, h, hk, hx, _⟩
    · have E := Lib.hid (show socB xs s = false by simp [socB, h])
      have H := Lib.hid h
      clear hF h
      go_enter Try.func23, Try.ntmps23
      go_wp2_with fail
      refine (sortAt_any _ _ _ _ xs s _ hr hB hn).mono ?_
      rw [H.out]
      rintro e w1 ⟨rfl, hb1⟩
      go_wp2_with fail
      refine (HF.out _ hb1).mono ?_
      rw [HFF.out]
      rintro e w2 ⟨rfl, hb2⟩
      go_wp2
      go_ret2
      exact pair_b (oV_no E.out).symm E.out.symm (by repeat (first | (with_reducible exact Below.refl _ _) | (with_reducible assumption) | (with_reducible refine bl_alloc ?_ _) | (with_reducible refine bl_drew ?_) | (with_reducible refine bl_drewN ?_ _) | ((with_reducible refine bl_set ?_ ?hb _); (case hb => first | (simp; done) | omega | (simp; omega))) | (with_reducible refine bl_trans ?_ (by assumption))))
    · have E := Lib.hid (show socB xs s = true by simp [socB, h, hF])
      have EV := Lib.hid (show socV xs s = x.set by simp [socV, h, hx])
      have H := Lib.hid h
      have HX := Lib.hid hx
      clear hF h hx
      go_enter Try.func23, Try.ntmps23
      go_wp2_with fail
      refine (sortAt_any _ _ _ _ xs s _ hr hB hn).mono ?_
      rw [H.out]
      rintro e w1 ⟨rfl, hb1⟩
      go_wp2_with fail
      refine (HF.out _ hb1).mono ?_
      rw [HFF.out]
      rintro e w2 ⟨rfl, hb2⟩
      have hB2 : Below w.heap.size w w2 := by repeat (first | (with_reducible exact Below.refl _ _) | (with_reducible assumption) | (with_reducible refine bl_alloc ?_ _) | (with_reducible refine bl_drew ?_) | (with_reducible refine bl_drewN ?_ _) | ((with_reducible refine bl_set ?_ ?hb _); (case hb => first | (simp; done) | omega | (simp; omega))) | (with_reducible refine bl_trans ?_ (by assumption)))
      obtain ⟨b, off, y, rfl, hbB, hy, c0, c1⟩ := (hr.below (hB2.mono hB)).atSrt (show k < n by omega)
      obtain rfl : x = y := by rw [HX.out] at hy; exact Option.some.inj hy
      clear hy
      have i0 : (0 : Int) ≤ (k : Int) := by omega
      have i1 : (k : Int) < (n : Int) := by omega
      go_wp2
      go_ret2
      exact pair_b (by rw [oV_yes E.out, EV.out]) E.out.symm hB2
set_option maxHeartbeats 1000000 in
theorem lawSetOfCode (A : Option Addr) (n c : Nat) (xs : List Srt) (s : ByteArray) (w : World) (hr : Rd cSrt 2 w w.heap.size A n xs) (hn : n ≤ maxLen) (hok : ∀ x ∈ xs, okSrt x) (hs : s.size ≤ maxLen) : Calls Try.prog 5 #[.slice A n c, .string s] w fun e w' => e = .returned (.bool (true)) ∧ Below w.heap.size w w' := by
  have HH := Lib.hid hs
  have hs' := hs
  unfold maxLen at hs'
  have hn' := hn
  unfold maxLen at hn'
  have HN := Lib.hid hn
  have HOK := Lib.hid hok
  have HS := Lib.hid (szSortS_any A n c _ xs 1048576 w hr (Nat.le_refl _) hn hok (by omega) (by omega))
  clear hn hok hs
  by_cases hbig : (1048576 : Int) < s.size
  · go_enter Try.func5, Try.ntmps5
    go_wp2
    go_ret
    exact ⟨rfl, Below.refl _ _⟩
  · go_enter Try.func5, Try.ntmps5
    go_wp2_with fail
    refine HS.out.mono ?_
    rintro e w0 ⟨r, rfl, hsz, hb0⟩
    have HSZ := Lib.hid hsz
    clear hsz
    by_cases hneg : r < 0
    · go_wp2_with fail
      go_ret
      exact ⟨rfl, by repeat (first | (with_reducible exact Below.refl _ _) | (with_reducible assumption) | (with_reducible refine bl_alloc ?_ _) | (with_reducible refine bl_drew ?_) | (with_reducible refine bl_drewN ?_ _) | ((with_reducible refine bl_set ?_ ?hb _); (case hb => first | (simp; done) | omega | (simp; omega))) | (with_reducible refine bl_trans ?_ (by assumption)))⟩
    · have hn2 : n ≤ 1048576 := by
        rcases HSZ.out with h | h <;> omega
      have hB0 : w.heap.size ≤ w0.heap.size := hb0.size
      go_wp2_with fail
      refine (toSrtS_any _ _ _ _ xs _ (hr.below hb0) hB0 hn2).mono ?_
      rintro e w1 ⟨A1, c1, rfl, h1, hb1⟩
      go_wp2_with fail
      refine (specSoC_any _ _ _ _ xs s _ h1.rd (Nat.le_refl _) hn2 HOK.out).mono ?_
      rintro e w2 ⟨rfl, hb2⟩
      have hB2 : Below w.heap.size w w2 := by repeat (first | (with_reducible exact Below.refl _ _) | (with_reducible assumption) | (with_reducible refine bl_alloc ?_ _) | (with_reducible refine bl_drew ?_) | (with_reducible refine bl_drewN ?_ _) | ((with_reducible refine bl_set ?_ ?hb _); (case hb => first | (simp; done) | omega | (simp; omega))) | (with_reducible refine bl_trans ?_ (by assumption)))
      go_wp2_with fail
      refine (toSrtS_any _ _ _ _ xs _ (hr.below hB2) hB2.size hn2).mono ?_
      rintro e w3 ⟨A3, c3, rfl, h3, hb3⟩
      go_wp2_with fail
      refine (implSoC_any _ _ _ _ xs s _ h3.rd (Nat.le_refl _) hn2 HOK.out).mono ?_
      rintro e w4 ⟨rfl, hb4⟩
      have hB4 : Below w.heap.size w w4 := by repeat (first | (with_reducible exact Below.refl _ _) | (with_reducible assumption) | (with_reducible refine bl_alloc ?_ _) | (with_reducible refine bl_drew ?_) | (with_reducible refine bl_drewN ?_ _) | ((with_reducible refine bl_set ?_ ?hb _); (case hb => first | (simp; done) | omega | (simp; omega))) | (with_reducible refine bl_trans ?_ (by assumption)))
      go_wp2_with fail
      refine (toSrtS_any _ _ _ _ xs _ (hr.below hB4) hB4.size hn2).mono ?_
      rintro e w5 ⟨A5, c5, rfl, h5, hb5⟩
      go_wp2_with fail
      refine (eqSrtS_same _ _ _ _ _ _ _ xs _ ((h3.below hb4).below hb5).rd h5.rd (Nat.le_refl _) (Nat.le_refl _) HN.out).mono ?_
      rintro e w6 ⟨rfl, hb6⟩
      go_wp2
      go_ret
      exact ⟨rfl, by repeat (first | (with_reducible exact Below.refl _ _) | (with_reducible assumption) | (with_reducible refine bl_alloc ?_ _) | (with_reducible refine bl_drew ?_) | (with_reducible refine bl_drewN ?_ _) | ((with_reducible refine bl_set ?_ ?hb _); (case hb => first | (simp; done) | omega | (simp; omega))) | (with_reducible refine bl_trans ?_ (by assumption)))⟩
end Go.Proofs.Ytfehdpaoboiodaa
