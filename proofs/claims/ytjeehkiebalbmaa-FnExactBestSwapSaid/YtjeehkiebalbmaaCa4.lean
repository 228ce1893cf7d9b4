/-
  IsCase, TypesIn, BoxOf: contracts and the laws' walks.
-/
import Derived.Test.YtjeehkiebalbmaaCa3
import Derived.Test.YtjeehkiebalbmaaFnd
namespace Go.Proofs.Ytjeehkiebalbmaa
open Go.RowKit
set_option linter.unusedVariables false
attribute [local go_sem ↓] Go.wp_at_zero Go.wp_at_succ

theorem specIsCase_any (A : Option Addr) (n cp B : Nat) (xs : List Box) (w : World) (hr : Rd cBox 4 w B A n xs) (hB : B ≤ w.heap.size) (hn : n ≤ 1048576) (hok : ∀ x ∈ xs, okBox x) (hcap : n ≤ cp) :
    Calls Try.prog 15 #[.slice A n cp] w fun e w' => e = .returned (.bool (caseB xs)) ∧ Below w.heap.size w w' := by
  have HOK := Lib.hid hok
  clear hok
  go_enter Try.func15, Try.ntmps15
  go_wp2_with (go_at_call 36; refine (caGood_any _ _ _ _ xs _ hr hB hn HOK.out hcap).mono ?_; rintro e w' ⟨rfl, hb⟩)
  go_ret
  exact ⟨rfl, by repeat (first | (with_reducible exact Below.refl _ _) | (with_reducible assumption) | (with_reducible refine bl_alloc ?_ _) | (with_reducible refine bl_drew ?_) | (with_reducible refine bl_drewN ?_ _) | ((with_reducible refine bl_set ?_ ?hb _); (case hb => first | (simp; done) | omega | (simp; omega))) | (with_reducible refine bl_trans ?_ (by assumption)))⟩
set_option maxHeartbeats 1000000 in
theorem lawIsCase (A : Option Addr) (n c : Nat) (xs : List Box) (w : World) (hr : Rd cBox 4 w w.heap.size A n xs) (hn : n ≤ maxLen) (hok : ∀ x ∈ xs, okBox x) : Calls Try.prog 4 #[.slice A n c] w fun e w' => e = .returned (.bool (true)) ∧ Below w.heap.size w w' := by
  have hn' := hn
  unfold maxLen at hn'
  have HN := Lib.hid hn
  have HOK := Lib.hid hok
  have HS := Lib.hid (szBoxS_any A n c _ xs 1048576 w hr (Nat.le_refl _) hn hok (by omega) (by omega))
  clear hn hok
  go_enter Try.func4, Try.ntmps4
  go_wp2_with fail
  refine HS.out.mono ?_
  rintro e w0 ⟨r, rfl, hsz, hb0⟩
  have HSZ := Lib.hid hsz
  have HB0 := Lib.hid hb0
  clear hsz hb0
  by_cases hneg : r < 0
  · go_wp2_with fail
    go_ret
    exact ⟨rfl, HB0.out⟩
  have hn2 : n ≤ 1048576 := by
    rcases HSZ.out with h | h <;> omega
  have HT := Lib.hid (fun (W : World) (h : Below w.heap.size w W) => toBoxS_cap A n c _ xs W (hr.below h) h.size hn2)
  go_wp2_with fail
  refine (HT.out _ HB0.out).mono ?_
  rintro e w1 ⟨A1, rfl, h1, hb⟩
  have HB1 := Lib.hid (bl_trans HB0.out hb)
  clear hb
  go_wp2_with fail
  refine (specIsCase_any _ _ _ _ xs _ h1.rd (Nat.le_refl _) hn2 HOK.out (Nat.le_refl _)).mono ?_
  rintro e w2 ⟨rfl, hb⟩
  have HB2 := Lib.hid (bl_trans HB1.out hb)
  clear hb
  go_wp2_with fail
  refine (HT.out _ HB2.out).mono ?_
  rintro e w3 ⟨A3, rfl, h3, hb⟩
  have HB3 := Lib.hid (bl_trans HB2.out hb)
  clear hb
  go_wp2_with fail
  refine (implIsCase_any _ _ _ _ xs _ h3.rd (Nat.le_refl _) hn2 HOK.out (Nat.le_refl _)).mono ?_
  rintro e w4 ⟨rfl, hb⟩
  have HB4 := Lib.hid (bl_trans HB3.out hb)
  have H34 := Lib.hid (h3.below hb)
  clear hb h3
  go_wp2_with fail
  refine (HT.out _ HB4.out).mono ?_
  rintro e w5 ⟨A5, rfl, h5, hb⟩
  have HB5 := Lib.hid (bl_trans HB4.out hb)
  have H35 := Lib.hid (H34.out.below hb)
  clear hb
  go_wp2_with fail
  refine (eqBoxS_same _ _ _ _ _ _ _ xs _ H35.out.rd h5.rd (Nat.le_refl _) (Nat.le_refl _) HN.out).mono ?_
  rintro e w6 ⟨rfl, hb6⟩
  go_wp2
  go_ret
  exact ⟨rfl, bl_trans HB5.out hb6⟩
/-! ### TypesIn -/
def cntTo (xs : List Box) (k : Nat) : Int := ((xs.take k).map Box.cnt).foldl (· + ·) 0
theorem cntTo_snoc {xs : List Box} {k : Nat} {x : Box} (h : xs[k]? = some x) : cntTo xs (k + 1) = cntTo xs k + x.cnt := by
  unfold cntTo
  rw [take_snoc h, List.map_append, List.foldl_append]
  rfl
theorem box_bd {x : Box} (h : boxB x = true) : (0 ≤ x.row ∧ x.row ≤ 9) ∧ (0 ≤ x.col ∧ x.col ≤ 9) ∧ (0 ≤ x.cnt ∧ x.cnt ≤ 9999) := by
  unfold boxB at h
  simp only [Bool.and_eq_true] at h
  exact ⟨inB_iff.1 h.2.1, inB_iff.1 h.2.2.1, inB_iff.1 h.2.2.2⟩
theorem cntTo_bd {xs : List Box} (h : caseB xs = true) : ∀ k, k ≤ xs.length → 0 ≤ cntTo xs k ∧ cntTo xs k ≤ 9999 * (k : Int)
  | 0, _ => by simp [cntTo]
  | k + 1, hk => by
    have h1 := cntTo_bd h k (by omega)
    have hx : xs[k]? = some (xs[k]'(by omega)) := List.getElem?_eq_getElem _
    have h2 := (box_bd (case_each h hx).1).2.2
    rw [cntTo_snoc hx]
    omega
set_option maxHeartbeats 1000000 in
theorem caSum_any (A : Option Addr) (n cp B : Nat) (xs : List Box) (w : World) (hr : Rd cBox 4 w B A n xs) (hB : B ≤ w.heap.size) (hc : caseB xs = true) :
    Calls Try.prog 39 #[.slice A n cp] w fun e w' => e = .returned (.int .i64 (cntTo xs xs.length)) ∧ Below w.heap.size w w' := by
  have hl := hr.1
  have hlen := case_len hc
  have HBD := Lib.hid (cntTo_bd hc)
  have HC := Lib.hid hc
  clear hc
  go_enter Try.func39, Try.ntmps39
  go_wp2
  go_loopw [3, 8] (fun q i wr => ∃ k : Nat, k ≤ n ∧ i = .int .i64 k ∧ q = .int .i64 (cntTo xs k) ∧ Below w.heap.size w wr) (fun _ i _ => n - (intOf i).toNat)
  case atStart => exact ⟨0, Nat.zero_le _, rfl, rfl, Below.refl _ _⟩
  case round =>
    obtain ⟨k, hk, rfl, rfl, hb⟩ := hrel
    by_cases hlt : k < n
    · obtain ⟨b, off, x, rfl, hbB, hx, c0, c1, c2, c3⟩ := (hr.below (hb.mono hB)).atBox hlt
      have hs1 := HBD.out k (by omega)
      have hs2 := (box_bd (case_each HC.out hx).1).2.2
      have HX := Lib.hid hx
      have HB := Lib.hid hb
      clear hx hb
      go_wp2
      go_roundw
      case rel => exact ⟨k + 1, by omega, by go_num, by rw [cntTo_snoc HX.out], bl_trans HB.out (bl_alloc (Below.refl _ _) _)⟩
      case measure => simp [intOf]; omega
    · go_wp2
      go_ret
      obtain rfl : k = n := by omega
      exact ⟨ret_int (by rw [hl]), hb⟩
set_option maxHeartbeats 1000000 in
theorem specTI_any (A : Option Addr) (n cp B : Nat) (xs : List Box) (w : World) (hr : Rd cBox 4 w B A n xs) (hB : B ≤ w.heap.size) (hn : n ≤ 1048576) (hok : ∀ x ∈ xs, okBox x) (hcap : n ≤ cp) :
    Calls Try.prog 19 #[.slice A n cp] w (PairB (oV (caseB xs) (cntTo xs xs.length)) (caseB xs) w) := by
  have HG := Lib.hid (caGood_any A n cp B xs w hr hB hn hok hcap)
  rcases hC : caseB xs with _ | _
  · have HC := Lib.hid hC
    clear hC hok
    go_enter Try.func19, Try.ntmps19
    go_wp2_with (go_at_call 36; refine HG.out.mono ?_; rw [HC.out]; rintro e w' ⟨rfl, hb⟩)
    go_ret2
    exact pair_b rfl rfl (by repeat (first | (with_reducible exact Below.refl _ _) | (with_reducible assumption) | (with_reducible refine bl_alloc ?_ _) | (with_reducible refine bl_drew ?_) | (with_reducible refine bl_drewN ?_ _) | ((with_reducible refine bl_set ?_ ?hb _); (case hb => first | (simp; done) | omega | (simp; omega))) | (with_reducible refine bl_trans ?_ (by assumption))))
  · have HC := Lib.hid hC
    clear hC hok
    go_enter Try.func19, Try.ntmps19
    go_wp2_with fail
    refine HG.out.mono ?_
    rw [HC.out]
    rintro e w1 ⟨rfl, hb⟩
    go_wp2_with fail
    refine (caSum_any _ _ _ _ xs _ (hr.below (hb.mono hB)) (Nat.le_trans hB hb.size) HC.out).mono ?_
    rintro e w2 ⟨rfl, hb2⟩
    go_wp2
    go_ret2
    exact pair_b rfl rfl (by repeat (first | (with_reducible exact Below.refl _ _) | (with_reducible assumption) | (with_reducible refine bl_alloc ?_ _) | (with_reducible refine bl_drew ?_) | (with_reducible refine bl_drewN ?_ _) | ((with_reducible refine bl_set ?_ ?hb _); (case hb => first | (simp; done) | omega | (simp; omega))) | (with_reducible refine bl_trans ?_ (by assumption))))
set_option maxHeartbeats 1000000 in
theorem implTI_any (A : Option Addr) (n cp B : Nat) (xs : List Box) (w : World) (hr : Rd cBox 4 w B A n xs) (hB : B ≤ w.heap.size) (hn : n ≤ 1048576) (hok : ∀ x ∈ xs, okBox x) (hcap : n ≤ cp) :
    Calls Try.prog 20 #[.slice A n cp] w (PairB (oV (caseB xs) (cntTo xs xs.length)) (caseB xs) w) := by
  have HG := Lib.hid (implIsCase_any A n cp B xs w hr hB hn hok hcap)
  have hl := hr.1
  rcases hC : caseB xs with _ | _
  · have HC := Lib.hid hC
    clear hC hok
    go_enter Try.func20, Try.ntmps20
    go_wp2_with (go_at_call 17; refine HG.out.mono ?_; rw [HC.out]; rintro e w' ⟨rfl, hb⟩)
    go_ret2
    exact pair_b rfl rfl (by repeat (first | (with_reducible exact Below.refl _ _) | (with_reducible assumption) | (with_reducible refine bl_alloc ?_ _) | (with_reducible refine bl_drew ?_) | (with_reducible refine bl_drewN ?_ _) | ((with_reducible refine bl_set ?_ ?hb _); (case hb => first | (simp; done) | omega | (simp; omega))) | (with_reducible refine bl_trans ?_ (by assumption))))
  · have hlen := case_len hC
    have HBD := Lib.hid (cntTo_bd hC)
    have HC := Lib.hid hC
    clear hC hok
    go_enter Try.func20, Try.ntmps20
    go_wp2_with fail
    refine HG.out.mono ?_
    rw [HC.out]
    rintro e w1 ⟨rfl, hb1⟩
    have HB1 := Lib.hid hb1
    clear hb1
    go_wp2
    go_loopw [4, 12] (fun q i wr => ∃ k : Nat, k ≤ n ∧ i = .int .i64 k ∧ q = .int .i64 (cntTo xs k) ∧ Below w1.heap.size w1 wr) (fun _ i _ => n - (intOf i).toNat)
    case atStart => exact ⟨0, Nat.zero_le _, rfl, rfl, Below.refl _ _⟩
    case round =>
      obtain ⟨k, hk, rfl, rfl, hb⟩ := hrel
      by_cases hlt : k < n
      · obtain ⟨b, off, x, rfl, hbB, hx, c0, c1, c2, c3⟩ := (hr.below ((bl_trans HB1.out hb).mono hB)).atBox hlt
        have hs1 := HBD.out k (by omega)
        have hs2 := (box_bd (case_each HC.out hx).1).2.2
        have HX := Lib.hid hx
        have HB := Lib.hid hb
        clear hx hb
        go_wp2
        go_roundw
        case rel => exact ⟨k + 1, by omega, by go_num, by rw [cntTo_snoc HX.out], bl_trans HB.out (bl_alloc (Below.refl _ _) _)⟩
        case measure => simp [intOf]; omega
      · go_wp2
        go_ret2
        obtain rfl : k = n := by omega
        exact pair_b (by rw [hl]; rfl) rfl (bl_trans HB1.out hb)
set_option maxHeartbeats 1000000 in
theorem lawTypesIn (A : Option Addr) (n c : Nat) (xs : List Box) (w : World) (hr : Rd cBox 4 w w.heap.size A n xs) (hn : n ≤ maxLen) (hok : ∀ x ∈ xs, okBox x) : Calls Try.prog 5 #[.slice A n c] w fun e w' => e = .returned (.bool (true)) ∧ Below w.heap.size w w' := by
  have hn' := hn
  unfold maxLen at hn'
  have HN := Lib.hid hn
  have HOK := Lib.hid hok
  have HS := Lib.hid (szBoxS_any A n c _ xs 1048576 w hr (Nat.le_refl _) hn hok (by omega) (by omega))
  clear hn hok
  go_enter Try.func5, Try.ntmps5
  go_wp2_with fail
  refine HS.out.mono ?_
  rintro e w0 ⟨r, rfl, hsz, hb0⟩
  have HSZ := Lib.hid hsz
  have HB0 := Lib.hid hb0
  clear hsz hb0
  by_cases hneg : r < 0
  · go_wp2_with fail
    go_ret
    exact ⟨rfl, HB0.out⟩
  have hn2 : n ≤ 1048576 := by
    rcases HSZ.out with h | h <;> omega
  have HT := Lib.hid (fun (W : World) (h : Below w.heap.size w W) => toBoxS_cap A n c _ xs W (hr.below h) h.size hn2)
  go_wp2_with fail
  refine (HT.out _ HB0.out).mono ?_
  rintro e w1 ⟨A1, rfl, h1, hb⟩
  have HB1 := Lib.hid (bl_trans HB0.out hb)
  clear hb
  go_wp2_with fail
  refine (specTI_any _ _ _ _ xs _ h1.rd (Nat.le_refl _) hn2 HOK.out (Nat.le_refl _)).mono ?_
  rintro e w2 ⟨rfl, hb⟩
  have HB2 := Lib.hid (bl_trans HB1.out hb)
  clear hb
  go_wp2_with fail
  refine (HT.out _ HB2.out).mono ?_
  rintro e w3 ⟨A3, rfl, h3, hb⟩
  have HB3 := Lib.hid (bl_trans HB2.out hb)
  clear hb
  go_wp2_with fail
  refine (implTI_any _ _ _ _ xs _ h3.rd (Nat.le_refl _) hn2 HOK.out (Nat.le_refl _)).mono ?_
  rintro e w4 ⟨rfl, hb⟩
  have HB4 := Lib.hid (bl_trans HB3.out hb)
  have H34 := Lib.hid (h3.below hb)
  clear hb h3
  go_wp2_with fail
  refine (HT.out _ HB4.out).mono ?_
  rintro e w5 ⟨A5, rfl, h5, hb⟩
  have HB5 := Lib.hid (bl_trans HB4.out hb)
  have H35 := Lib.hid (H34.out.below hb)
  clear hb
  go_wp2_with fail
  refine (eqBoxS_same _ _ _ _ _ _ _ xs _ H35.out.rd h5.rd (Nat.le_refl _) (Nat.le_refl _) HN.out).mono ?_
  rintro e w6 ⟨rfl, hb6⟩
  go_wp2
  go_ret
  exact ⟨rfl, bl_trans HB5.out hb6⟩
/-! ### BoxOf -/
def codeB (s : ByteArray) (x : Box) : Bool := x.code.toList == s.toList
set_option maxHeartbeats 1000000 in
theorem caFind_any (A : Option Addr) (n c B : Nat) (xs : List Box) (s : ByteArray) (w : World) (hr : Rd cBox 4 w B A n xs) (hB : B ≤ w.heap.size) (hn : n ≤ 1048576) :
    Calls Try.prog 40 #[.slice A n c, .string s] w fun e w' => e = .returned (.int .i64 (findI (codeB s) xs)) ∧ Below w.heap.size w w' := by
  have hl := hr.1
  go_enter Try.func40, Try.ntmps40
  go_wp2
  go_loopw [9] (fun i wr => ∃ k : Nat, k ≤ n ∧ i = .int .i64 k ∧ Below w.heap.size w wr ∧ Hid ((xs.take k).all (fun y => !codeB s y) = true)) (fun i _ => n - (intOf i).toNat)
  case atStart => exact ⟨0, Nat.zero_le _, rfl, Below.refl _ _, rfl⟩
  case round =>
    obtain ⟨k, hk, rfl, hb, HA⟩ := hrel
    by_cases hlt : k < n
    · obtain ⟨b, off, x, rfl, hbB, hx, c0, c1, c2, c3⟩ := (hr.below (hb.mono hB)).atBox hlt
      have HX := Lib.hid hx
      have HB := Lib.hid hb
      clear hx hb
      rcases hin : (x.code.toList == s.toList) with _ | _
      · have HI := Lib.hid (show (!codeB s x) = true by rw [codeB, hin]; rfl)
        go_wp2
        go_roundw
        case rel => exact ⟨k + 1, by omega, by go_num, bl_trans HB.out (bl_alloc (Below.refl _ _) _), all_snoc (p := fun y => !codeB s y) HX.out HA.out HI.out⟩
        case measure => simp [intOf]; omega
      · have HI := Lib.hid (show codeB s x = true from hin)
        go_wp2
        go_ret
        exact ⟨ret_int (find_hit HX.out HI.out HA.out).symm, bl_trans HB.out (bl_alloc (Below.refl _ _) _)⟩
    · have HE := Lib.hid (find_none (by omega) HA.out)
      go_wp2
      go_ret
      exact ⟨ret_int HE.out.symm, hb⟩
set_option maxHeartbeats 1000000 in
theorem boxAt_any (A : Option Addr) (n c B : Nat) (xs : List Box) (s : ByteArray) (w : World) (hr : Rd cBox 4 w B A n xs) (hB : B ≤ w.heap.size) (hn : n ≤ 1048576) :
    Calls Try.prog 41 #[.slice A n c, .string s] w fun e w' => e = .returned (.int .i64 (findI (codeB s) xs)) ∧ Below w.heap.size w w' := by
  have hl := hr.1
  go_enter Try.func41, Try.ntmps41
  go_wp2
  go_loopw [9] (fun i wr => ∃ k : Nat, k ≤ n ∧ i = .int .i64 k ∧ Below w.heap.size w wr ∧ Hid ((xs.take k).all (fun y => !codeB s y) = true)) (fun i _ => n - (intOf i).toNat)
  case atStart => exact ⟨0, Nat.zero_le _, rfl, Below.refl _ _, rfl⟩
  case round =>
    obtain ⟨k, hk, rfl, hb, HA⟩ := hrel
    by_cases hlt : k < n
    · obtain ⟨b, off, x, rfl, hbB, hx, c0, c1, c2, c3⟩ := (hr.below (hb.mono hB)).atBox hlt
      have HX := Lib.hid hx
      have HB := Lib.hid hb
      clear hx hb
      rcases hin : (x.code.toList == s.toList) with _ | _
      · have HI := Lib.hid (show (!codeB s x) = true by rw [codeB, hin]; rfl)
        go_wp2
        go_roundw
        case rel => exact ⟨k + 1, by omega, by go_num, bl_trans HB.out (bl_alloc (Below.refl _ _) _), all_snoc (p := fun y => !codeB s y) HX.out HA.out HI.out⟩
        case measure => simp [intOf]; omega
      · have HI := Lib.hid (show codeB s x = true from hin)
        go_wp2
        go_ret
        exact ⟨ret_int (find_hit HX.out HI.out HA.out).symm, bl_trans HB.out (bl_alloc (Below.refl _ _) _)⟩
    · have HE := Lib.hid (find_none (by omega) HA.out)
      go_wp2
      go_ret
      exact ⟨ret_int HE.out.symm, hb⟩
def boB (xs : List Box) (s : ByteArray) : Bool := caseB xs && decide (0 ≤ findI (codeB s) xs)
set_option maxHeartbeats 1000000 in
theorem specBO_any (A : Option Addr) (n c B : Nat) (xs : List Box) (s : ByteArray) (w : World) (hr : Rd cBox 4 w B A n xs) (hB : B ≤ w.heap.size) (hn : n ≤ 1048576) (hok : ∀ x ∈ xs, okBox x) (hcap : n ≤ c) :
    Calls Try.prog 21 #[.slice A n c, .string s] w (PairB (oV (boB xs s) (findI (codeB s) xs)) (boB xs s) w) := by
  have HF := Lib.hid (fun (W : World) (h : Below w.heap.size w W) => caGood_any A n c _ xs W (hr.below (h.mono hB)) (Nat.le_trans hB h.size) hn hok hcap)
  clear hok
  rcases hF : caseB xs with _ | _
  · have E := Lib.hid (show boB xs s = false by simp [boB, hF])
    have HFF := Lib.hid hF
    clear hF
    go_enter Try.func21, Try.ntmps21
    go_wp2_with fail
    refine (caFind_any _ _ _ _ xs s _ hr hB hn).mono ?_
    rintro e w1 ⟨rfl, hb1⟩
    go_wp2_with fail
    refine (HF.out _ hb1).mono ?_
    rw [HFF.out]
    rintro e w2 ⟨rfl, hb2⟩
    go_wp2
    go_ret2
    exact pair_b (oV_no E.out).symm E.out.symm (by repeat (first | (with_reducible exact Below.refl _ _) | (with_reducible assumption) | (with_reducible refine bl_alloc ?_ _) | (with_reducible refine bl_drew ?_) | (with_reducible refine bl_drewN ?_ _) | ((with_reducible refine bl_set ?_ ?hb _); (case hb => first | (simp; done) | omega | (simp; omega))) | (with_reducible refine bl_trans ?_ (by assumption))))
  · have HFF := Lib.hid hF
    rcases find_cases (codeB s) xs with h | ⟨k, x, h, hk, hx, _⟩
    all_goals
      have H := Lib.hid h
      have E := Lib.hid (show boB xs s = _ by rw [boB, hF, h])
      clear hF h
      go_enter Try.func21, Try.ntmps21
      go_wp2_with fail
      refine (caFind_any _ _ _ _ xs s _ hr hB hn).mono ?_
      rw [H.out]
      rintro e w1 ⟨rfl, hb1⟩
      go_wp2_with fail
      refine (HF.out _ hb1).mono ?_
      rw [HFF.out]
      rintro e w2 ⟨rfl, hb2⟩
      go_wp2
      go_ret2
    · exact pair_b (oV_no E.out).symm E.out.symm (by repeat (first | (with_reducible exact Below.refl _ _) | (with_reducible assumption) | (with_reducible refine bl_alloc ?_ _) | (with_reducible refine bl_drew ?_) | (with_reducible refine bl_drewN ?_ _) | ((with_reducible refine bl_set ?_ ?hb _); (case hb => first | (simp; done) | omega | (simp; omega))) | (with_reducible refine bl_trans ?_ (by assumption))))
    · have hd : decide ((0 : Int) ≤ (k : Int)) = true := decide_eq_true (by omega)
      have E2 := E.out
      rw [Bool.true_and, hd] at E2
      exact pair_b (by rw [oV_yes E2, H.out]) E2.symm (by repeat (first | (with_reducible exact Below.refl _ _) | (with_reducible assumption) | (with_reducible refine bl_alloc ?_ _) | (with_reducible refine bl_drew ?_) | (with_reducible refine bl_drewN ?_ _) | ((with_reducible refine bl_set ?_ ?hb _); (case hb => first | (simp; done) | omega | (simp; omega))) | (with_reducible refine bl_trans ?_ (by assumption))))
set_option maxHeartbeats 1000000 in
theorem implBO_any (A : Option Addr) (n c B : Nat) (xs : List Box) (s : ByteArray) (w : World) (hr : Rd cBox 4 w B A n xs) (hB : B ≤ w.heap.size) (hn : n ≤ 1048576) (hok : ∀ x ∈ xs, okBox x) (hcap : n ≤ c) :
    Calls Try.prog 22 #[.slice A n c, .string s] w (PairB (oV (boB xs s) (findI (codeB s) xs)) (boB xs s) w) := by
  have HF := Lib.hid (fun (W : World) (h : Below w.heap.size w W) => implIsCase_any A n c _ xs W (hr.below (h.mono hB)) (Nat.le_trans hB h.size) hn hok hcap)
  clear hok
  rcases hF : caseB xs with _ | _
  · have E := Lib.hid (show boB xs s = false by simp [boB, hF])
    have HFF := Lib.hid hF
    clear hF
    go_enter Try.func22, Try.ntmps22
    go_wp2_with fail
    refine (boxAt_any _ _ _ _ xs s _ hr hB hn).mono ?_
    rintro e w1 ⟨rfl, hb1⟩
    go_wp2_with fail
    refine (HF.out _ hb1).mono ?_
    rw [HFF.out]
    rintro e w2 ⟨rfl, hb2⟩
    go_wp2
    go_ret2
    exact pair_b (oV_no E.out).symm E.out.symm (by repeat (first | (with_reducible exact Below.refl _ _) | (with_reducible assumption) | (with_reducible refine bl_alloc ?_ _) | (with_reducible refine bl_drew ?_) | (with_reducible refine bl_drewN ?_ _) | ((with_reducible refine bl_set ?_ ?hb _); (case hb => first | (simp; done) | omega | (simp; omega))) | (with_reducible refine bl_trans ?_ (by assumption))))
  · have HFF := Lib.hid hF
    rcases find_cases (codeB s) xs with h | ⟨k, x, h, hk, hx, _⟩
    all_goals
      have H := Lib.hid h
      have E := Lib.hid (show boB xs s = _ by rw [boB, hF, h])
      clear hF h
      go_enter Try.func22, Try.ntmps22
      go_wp2_with fail
      refine (boxAt_any _ _ _ _ xs s _ hr hB hn).mono ?_
      rw [H.out]
      rintro e w1 ⟨rfl, hb1⟩
      go_wp2_with fail
      refine (HF.out _ hb1).mono ?_
      rw [HFF.out]
      rintro e w2 ⟨rfl, hb2⟩
      go_wp2
      go_ret2
    · exact pair_b (oV_no E.out).symm E.out.symm (by repeat (first | (with_reducible exact Below.refl _ _) | (with_reducible assumption) | (with_reducible refine bl_alloc ?_ _) | (with_reducible refine bl_drew ?_) | (with_reducible refine bl_drewN ?_ _) | ((with_reducible refine bl_set ?_ ?hb _); (case hb => first | (simp; done) | omega | (simp; omega))) | (with_reducible refine bl_trans ?_ (by assumption))))
    · have hd : decide ((0 : Int) ≤ (k : Int)) = true := decide_eq_true (by omega)
      have E2 := E.out
      rw [Bool.true_and, hd] at E2
      exact pair_b (by rw [oV_yes E2, H.out]) E2.symm (by repeat (first | (with_reducible exact Below.refl _ _) | (with_reducible assumption) | (with_reducible refine bl_alloc ?_ _) | (with_reducible refine bl_drew ?_) | (with_reducible refine bl_drewN ?_ _) | ((with_reducible refine bl_set ?_ ?hb _); (case hb => first | (simp; done) | omega | (simp; omega))) | (with_reducible refine bl_trans ?_ (by assumption))))
set_option maxHeartbeats 1000000 in
theorem lawBoxOf (A : Option Addr) (n c : Nat) (xs : List Box) (s : ByteArray) (w : World) (hr : Rd cBox 4 w w.heap.size A n xs) (hn : n ≤ maxLen) (hok : ∀ x ∈ xs, okBox x) (hs : s.size ≤ maxLen) : Calls Try.prog 6 #[.slice A n c, .string s] w fun e w' => e = .returned (.bool (true)) ∧ Below w.heap.size w w' := by
  have hs' := hs
  unfold maxLen at hs'
  clear hs
  by_cases hbig : (1048576 : Int) < s.size
  · go_enter Try.func6, Try.ntmps6
    go_wp2
    go_ret
    exact ⟨rfl, Below.refl _ _⟩
  have hn' := hn
  unfold maxLen at hn'
  have HN := Lib.hid hn
  have HOK := Lib.hid hok
  have HS := Lib.hid (szBoxS_any A n c _ xs 1048576 w hr (Nat.le_refl _) hn hok (by omega) (by omega))
  clear hn hok
  go_enter Try.func6, Try.ntmps6
  go_wp2_with fail
  refine HS.out.mono ?_
  rintro e w0 ⟨r, rfl, hsz, hb0⟩
  have HSZ := Lib.hid hsz
  have HB0 := Lib.hid hb0
  clear hsz hb0
  by_cases hneg : r < 0
  · go_wp2_with fail
    go_ret
    exact ⟨rfl, HB0.out⟩
  have hn2 : n ≤ 1048576 := by
    rcases HSZ.out with h | h <;> omega
  have HT := Lib.hid (fun (W : World) (h : Below w.heap.size w W) => toBoxS_cap A n c _ xs W (hr.below h) h.size hn2)
  go_wp2_with fail
  refine (HT.out _ HB0.out).mono ?_
  rintro e w1 ⟨A1, rfl, h1, hb⟩
  have HB1 := Lib.hid (bl_trans HB0.out hb)
  clear hb
  go_wp2_with fail
  refine (specBO_any _ _ _ _ xs s _ h1.rd (Nat.le_refl _) hn2 HOK.out (Nat.le_refl _)).mono ?_
  rintro e w2 ⟨rfl, hb⟩
  have HB2 := Lib.hid (bl_trans HB1.out hb)
  clear hb
  go_wp2_with fail
  refine (HT.out _ HB2.out).mono ?_
  rintro e w3 ⟨A3, rfl, h3, hb⟩
  have HB3 := Lib.hid (bl_trans HB2.out hb)
  clear hb
  go_wp2_with fail
  refine (implBO_any _ _ _ _ xs s _ h3.rd (Nat.le_refl _) hn2 HOK.out (Nat.le_refl _)).mono ?_
  rintro e w4 ⟨rfl, hb⟩
  have HB4 := Lib.hid (bl_trans HB3.out hb)
  have H34 := Lib.hid (h3.below hb)
  clear hb h3
  go_wp2_with fail
  refine (HT.out _ HB4.out).mono ?_
  rintro e w5 ⟨A5, rfl, h5, hb⟩
  have HB5 := Lib.hid (bl_trans HB4.out hb)
  have H35 := Lib.hid (H34.out.below hb)
  clear hb
  go_wp2_with fail
  refine (eqBoxS_same _ _ _ _ _ _ _ xs _ H35.out.rd h5.rd (Nat.le_refl _) (Nat.le_refl _) HN.out).mono ?_
  rintro e w6 ⟨rfl, hb6⟩
  go_wp2
  go_ret
  exact ⟨rfl, bl_trans HB5.out hb6⟩
end Go.Proofs.Ytjeehkiebalbmaa
