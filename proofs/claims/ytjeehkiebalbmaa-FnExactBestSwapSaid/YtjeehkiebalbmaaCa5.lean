/-
  The way of the hand: contracts of both sides.
-/
import Derived.Test.YtjeehkiebalbmaaCa4
import Derived.Test.YtjeehkiebalbmaaStrs
namespace Go.Proofs.Ytjeehkiebalbmaa
open Go.RowKit
set_option linter.unusedVariables false
attribute [local go_sem ↓] Go.wp_at_zero Go.wp_at_succ

def absI (z : Int) : Int := max z (-z)
theorem l1Abs_any (z : Int) (w : World) (h0 : -1000000 ≤ z) (h1 : z ≤ 1000000) : Calls Try.prog 43 #[.int .i64 z] w fun e w' => e = .returned (.int .i64 (absI z)) ∧ w = w' := by
  have e1 : IntKind.i64.wrap (-z) = -z := IntWalk.i64_in _ (by omega)
  go_enter Try.func43, Try.ntmps43
  go_wp2_with (go_at_call 53; refine (l1Most_any _ _ _).mono ?_; rintro e w' ⟨rfl, rfl⟩)
  go_ret
  exact ⟨rfl, rfl⟩
theorem abs_any (z : Int) (w : World) (h0 : -1000000 ≤ z) (h1 : z ≤ 1000000) : Calls Try.prog 44 #[.int .i64 z] w fun e w' => e = .returned (.int .i64 (absI z)) ∧ w = w' := by
  have e1 : IntKind.i64.wrap (-z) = -z := IntWalk.i64_in _ (by omega)
  by_cases h : z < -z
  · go_enter Try.func44, Try.ntmps44
    go_wp2
    go_ret
    exact ⟨ret_int (by unfold absI; omega), rfl⟩
  · go_enter Try.func44, Try.ntmps44
    go_wp2
    go_ret
    exact ⟨ret_int (by unfold absI; omega), rfl⟩
theorem absI_bd {a b : Int} (ha : 0 ≤ a ∧ a ≤ 9) (hb : 0 ≤ b ∧ b ≤ 9) : 0 ≤ absI (a - b) ∧ absI (a - b) ≤ 9 := by unfold absI; omega
def hasB (xs : List Box) (s : ByteArray) : Bool := decide (0 ≤ findI (codeB s) xs)
def askB (xs : List Box) (cs : List ByteArray) : Bool := cs.all (hasB xs) && (caseB xs && decide (cs.length ≤ 60))
set_option maxHeartbeats 1000000 in
theorem caAsked_any (A : Option Addr) (n c : Nat) (xs : List Box) (A' : Option Addr) (n' c' : Nat) (cs : List ByteArray) (w : World) (hr : Rd cBox 4 w w.heap.size A n xs) (hrs : Rd cS 1 w w.heap.size A' n' cs) (hn : n ≤ 1048576) (hn' : n' ≤ 1048576) (hok : ∀ x ∈ xs, okBox x) (hcap : n ≤ c) :
    Calls Try.prog 45 #[.slice A n c, .slice A' n' c'] w fun e w' => e = .returned (.bool (askB xs cs)) ∧ Below w.heap.size w w' := by
  have hl := hr.1
  have hl' := hrs.1
  have HF := Lib.hid (fun (W : World) (h : Below w.heap.size w W) => caGood_any A n c _ xs W (hr.below h) h.size hn hok hcap)
  clear hok
  go_enter Try.func45, Try.ntmps45
  go_wp2
  go_loopw [9] (fun i wr => ∃ k : Nat, k ≤ n' ∧ i = .int .i64 k ∧ Below w.heap.size w wr ∧ Hid ((cs.take k).all (hasB xs) = true)) (fun i _ => n' - (intOf i).toNat)
  case atStart => exact ⟨0, Nat.zero_le _, rfl, Below.refl _ _, rfl⟩
  case round =>
    obtain ⟨k, hk, rfl, hb, HA⟩ := hrel
    by_cases hlt : k < n'
    · obtain ⟨b, off, s, rfl, hbB, hs, c0⟩ := (hrs.below hb).atS hlt
      have hrr := hr.below hb
      have hBs := hb.size
      have HX := Lib.hid hs
      have HB := Lib.hid hb
      have HRR := Lib.hid hrr
      clear hs hb hrr
      by_cases hneg : findI (codeB s) xs < 0
      · have HI := Lib.hid (show hasB xs s = false from decide_eq_false (by omega))
        go_wp2_with (go_at_call 40; refine (caFind_any _ _ _ _ xs s _ HRR.out hBs hn).mono ?_; rintro e w' ⟨rfl, hb⟩)
        go_ret
        exact ⟨ret_bool (by unfold askB; rw [all_no HX.out HI.out, Bool.false_and]), bl_trans HB.out hb⟩
      · have HI := Lib.hid (show hasB xs s = true from decide_eq_true (by omega))
        go_wp2_with (go_at_call 40; refine (caFind_any _ _ _ _ xs s _ HRR.out hBs hn).mono ?_; rintro e w' ⟨rfl, hb⟩)
        go_roundw
        case rel => exact ⟨k + 1, by omega, by go_num, bl_trans HB.out hb, all_snoc HX.out HA.out HI.out⟩
        case measure => simp [intOf]; omega
    · obtain rfl : k = n' := by omega
      have HE := Lib.hid (show askB xs cs = (caseB xs && decide (cs.length ≤ 60)) by unfold askB; rw [all_end (by omega) HA.out, Bool.true_and])
      have HB := Lib.hid hb
      clear hb
      rcases hC : caseB xs with _ | _
      · have HC := Lib.hid hC
        clear hC
        go_wp2_with (go_at_call 36; refine (HF.out _ HB.out).mono ?_; rw [HC.out]; rintro e w' ⟨rfl, hb⟩)
        go_ret
        exact ⟨ret_bool (by rw [HE.out, HC.out]; rfl), bl_trans HB.out hb⟩
      · have HC := Lib.hid hC
        clear hC
        by_cases h60 : k ≤ 60
        all_goals
          go_wp2_with (go_at_call 36; refine (HF.out _ HB.out).mono ?_; rw [HC.out]; rintro e w' ⟨rfl, hb⟩)
          go_ret
          exact ⟨ret_bool (by rw [HE.out, HC.out, hl', Bool.true_and]; first | rfl | (rw [decide_eq_decide]; omega) | (simp; omega)), bl_trans HB.out hb⟩
set_option maxHeartbeats 1000000 in
theorem areCodes_any (A : Option Addr) (n c : Nat) (xs : List Box) (A' : Option Addr) (n' c' : Nat) (cs : List ByteArray) (w : World) (hr : Rd cBox 4 w w.heap.size A n xs) (hrs : Rd cS 1 w w.heap.size A' n' cs) (hn : n ≤ 1048576) (hn' : n' ≤ 1048576) (hok : ∀ x ∈ xs, okBox x) (hcap : n ≤ c) :
    Calls Try.prog 47 #[.slice A n c, .slice A' n' c'] w fun e w' => e = .returned (.bool (askB xs cs)) ∧ Below w.heap.size w w' := by
  have hl := hr.1
  have hl' := hrs.1
  have HF := Lib.hid (fun (W : World) (h : Below w.heap.size w W) => implIsCase_any A n c _ xs W (hr.below h) h.size hn hok hcap)
  clear hok
  go_enter Try.func47, Try.ntmps47
  go_wp2
  go_loopw [9] (fun i wr => ∃ k : Nat, k ≤ n' ∧ i = .int .i64 k ∧ Below w.heap.size w wr ∧ Hid ((cs.take k).all (hasB xs) = true)) (fun i _ => n' - (intOf i).toNat)
  case atStart => exact ⟨0, Nat.zero_le _, rfl, Below.refl _ _, rfl⟩
  case round =>
    obtain ⟨k, hk, rfl, hb, HA⟩ := hrel
    by_cases hlt : k < n'
    · obtain ⟨b, off, s, rfl, hbB, hs, c0⟩ := (hrs.below hb).atS hlt
      have hrr := hr.below hb
      have hBs := hb.size
      have HX := Lib.hid hs
      have HB := Lib.hid hb
      have HRR := Lib.hid hrr
      clear hs hb hrr
      by_cases hneg : findI (codeB s) xs < 0
      · have HI := Lib.hid (show hasB xs s = false from decide_eq_false (by omega))
        go_wp2_with (go_at_call 41; refine (boxAt_any _ _ _ _ xs s _ HRR.out hBs hn).mono ?_; rintro e w' ⟨rfl, hb⟩)
        go_ret
        exact ⟨ret_bool (by unfold askB; rw [all_no HX.out HI.out, Bool.false_and]), bl_trans HB.out hb⟩
      · have HI := Lib.hid (show hasB xs s = true from decide_eq_true (by omega))
        go_wp2_with (go_at_call 41; refine (boxAt_any _ _ _ _ xs s _ HRR.out hBs hn).mono ?_; rintro e w' ⟨rfl, hb⟩)
        go_roundw
        case rel => exact ⟨k + 1, by omega, by go_num, bl_trans HB.out hb, all_snoc HX.out HA.out HI.out⟩
        case measure => simp [intOf]; omega
    · obtain rfl : k = n' := by omega
      have HE := Lib.hid (show askB xs cs = (caseB xs && decide (cs.length ≤ 60)) by unfold askB; rw [all_end (by omega) HA.out, Bool.true_and])
      have HB := Lib.hid hb
      clear hb
      rcases hC : caseB xs with _ | _
      · have HC := Lib.hid hC
        clear hC
        go_wp2_with (go_at_call 17; refine (HF.out _ HB.out).mono ?_; rw [HC.out]; rintro e w' ⟨rfl, hb⟩)
        go_ret
        exact ⟨ret_bool (by rw [HE.out, HC.out]; rfl), bl_trans HB.out hb⟩
      · have HC := Lib.hid hC
        clear hC
        by_cases h60 : k ≤ 60
        all_goals
          go_wp2_with (go_at_call 17; refine (HF.out _ HB.out).mono ?_; rw [HC.out]; rintro e w' ⟨rfl, hb⟩)
          go_ret
          exact ⟨ret_bool (by rw [HE.out, HC.out, hl', Bool.true_and]; first | rfl | (rw [decide_eq_decide]; omega) | (simp; omega)), bl_trans HB.out hb⟩
/-! ### the way -/
structure WaySt where
  row : Int
  col : Int
  sum : Int
def wayTo (xs : List Box) (cs : List ByteArray) : Nat → WaySt
  | 0 => ⟨0, 0, 0⟩
  | k + 1 => match cs[k]? with
    | some s => match xs[(findI (codeB s) xs).toNat]? with
      | some x => ⟨x.row, x.col, (wayTo xs cs k).sum + (absI (x.row - (wayTo xs cs k).row) + absI (x.col - (wayTo xs cs k).col))⟩
      | none => wayTo xs cs k
    | none => wayTo xs cs k
theorem wayTo_snoc {xs : List Box} {cs : List ByteArray} {k i : Nat} {s : ByteArray} {x : Box} (hs : cs[k]? = some s) (hi : findI (codeB s) xs = (i : Int)) (hx : xs[i]? = some x) :
    wayTo xs cs (k + 1) = ⟨x.row, x.col, (wayTo xs cs k).sum + (absI (x.row - (wayTo xs cs k).row) + absI (x.col - (wayTo xs cs k).col))⟩ := by
  rw [wayTo, hs]
  simp [hi, hx]
def wayOk (s : WaySt) (k : Nat) : Prop := (0 ≤ s.row ∧ s.row ≤ 9) ∧ (0 ≤ s.col ∧ s.col ≤ 9) ∧ (0 ≤ s.sum ∧ s.sum ≤ 18 * (k : Int))
theorem wayTo_ok {xs : List Box} {cs : List ByteArray} (hx : ∀ x ∈ xs, boxB x = true) : ∀ k, wayOk (wayTo xs cs k) k
  | 0 => by simp [wayOk, wayTo]
  | k + 1 => by
    obtain ⟨hr, hc, h0, h1⟩ := wayTo_ok (cs := cs) hx k
    have hw : wayOk (wayTo xs cs k) (k + 1) := ⟨hr, hc, h0, by omega⟩
    rw [wayTo]
    split
    · split
      · rename_i x hxx
        obtain ⟨b1, b2, _⟩ := box_bd (hx x (List.mem_of_getElem? hxx))
        have a1 := absI_bd b1 hr
        have a2 := absI_bd b2 hc
        refine ⟨b1, b2, ?_, ?_⟩
        · show 0 ≤ _ + _; omega
        · show _ + _ ≤ _; omega
      · exact hw
    · exact hw
/-- what a way wants: boxes that are valid, codes that are there -/
def WayArg (xs : List Box) (cs : List ByteArray) : Prop := (∀ x ∈ xs, boxB x = true) ∧ (∀ s ∈ cs, 0 ≤ findI (codeB s) xs) ∧ cs.length ≤ 60
set_option maxHeartbeats 1000000 in
theorem caWay_any (A : Option Addr) (n c : Nat) (xs : List Box) (A' : Option Addr) (n' c' : Nat) (cs : List ByteArray) (w : World) (hr : Rd cBox 4 w w.heap.size A n xs) (hrs : Rd cS 1 w w.heap.size A' n' cs) (hn : n ≤ 1048576) (hw : WayArg xs cs) :
    Calls Try.prog 46 #[.slice A n c, .slice A' n' c'] w fun e w' => e = .returned (.int .i64 ((wayTo xs cs cs.length).sum)) ∧ Below w.heap.size w w' := by
  have hl := hr.1
  have hl' := hrs.1
  obtain ⟨hx, hcs, hlen⟩ := hw
  have HOK := Lib.hid (wayTo_ok (cs := cs) hx)
  have HX := Lib.hid hx
  have HCS := Lib.hid hcs
  clear hx hcs
  go_enter Try.func46, Try.ntmps46
  go_wp2
  go_loopw [5, 6, 7, 13] (fun p q t i wr => ∃ k : Nat, k ≤ n' ∧ i = .int .i64 k ∧ p = .int .i64 (wayTo xs cs k).row ∧ q = .int .i64 (wayTo xs cs k).col ∧ t = .int .i64 (wayTo xs cs k).sum ∧ Below w.heap.size w wr) (fun _ _ _ i _ => n' - (intOf i).toNat)
  case atStart => exact ⟨0, Nat.zero_le _, rfl, rfl, rfl, rfl, Below.refl _ _⟩
  case round =>
    obtain ⟨k, hk, rfl, rfl, rfl, rfl, hb⟩ := hrel
    by_cases hlt : k < n'
    · obtain ⟨b, off, s, rfl, hbB, hs, c0⟩ := (hrs.below hb).atS hlt
      have hneg := HCS.out s (List.mem_of_getElem? hs)
      obtain ⟨i, x, hfi, hin, hxi, _⟩ : ∃ (i : Nat) (x : Box), findI (codeB s) xs = (i : Int) ∧ i < xs.length ∧ xs[i]? = some x ∧ codeB s x = true := by
        rcases find_cases (codeB s) xs with h | h
        · omega
        · exact h
      have hstep := wayTo_snoc hs hfi hxi
      obtain ⟨b1, b2, _⟩ := box_bd (HX.out x (List.mem_of_getElem? hxi))
      have hok := HOK.out k
      obtain ⟨⟨qr, qc, qs⟩, hS⟩ : ∃ S, wayTo xs cs k = S := ⟨_, rfl⟩
      rw [hS] at hstep hok
      rw [hS]
      obtain ⟨r1, r2, r3, r4⟩ := hok
      dsimp only at hstep r1 r2 r3 r4
      dsimp only
      have a1 := absI_bd b1 r1
      have a2 := absI_bd b2 r2
      have e1 : IntKind.i64.wrap (x.row - qr) = x.row - qr := IntWalk.i64_in _ (by omega)
      have e2 : IntKind.i64.wrap (x.col - qc) = x.col - qc := IntWalk.i64_in _ (by omega)
      have e3 : IntKind.i64.wrap (absI (x.row - qr) + absI (x.col - qc)) = absI (x.row - qr) + absI (x.col - qc) := IntWalk.i64_in _ (by omega)
      have e4 : IntKind.i64.wrap (qs + (absI (x.row - qr) + absI (x.col - qc))) = qs + (absI (x.row - qr) + absI (x.col - qc)) := IntWalk.i64_in _ (by omega)
      have HST := Lib.hid hstep
      have HFI := Lib.hid hfi
      have HXI := Lib.hid hxi
      have HB := Lib.hid hb
      have hrr := hr.below hb
      have hBs := hb.size
      have HRR := Lib.hid hrr
      clear hS hstep hs hfi hxi hb hrr hneg
      go_wp2_with fail
      refine (caFind_any _ _ _ _ xs s _ HRR.out hBs hn).mono ?_
      rw [HFI.out]
      rintro e w2 ⟨rfl, hb⟩
      obtain ⟨bb, offb, y, rfl, hbbB, hy, d0, d1, d2, d3⟩ := (HRR.out.below (hb.mono hBs)).atBox (show i < n by omega)
      obtain rfl : x = y := by have := HXI.out; rw [this] at hy; exact Option.some.inj hy
      have HB2 := Lib.hid (bl_trans HB.out hb)
      clear hb hy
      have i0 : (0 : Int) ≤ (i : Int) := by omega
      have i1 : (i : Int) < (n : Int) := by omega
      go_wp2
      go_region_held3 (fun w' => w'.cell? ⟨w2.heap.size, 1, none⟩ = some (.int .i64 x.row) ∧ w'.cell? ⟨w2.heap.size, 2, none⟩ = some (.int .i64 x.col)) (go_keep) (first | (go_at_call 43; refine (l1Abs_any _ _ (by omega) (by omega)).mono ?_; rintro e w' ⟨rfl, rfl⟩))
      go_wp2
      go_roundw
      case rel => exact ⟨k + 1, by omega, by go_num, by rw [HST.out], by rw [HST.out], by rw [HST.out], bl_trans HB2.out (by repeat (first | (with_reducible exact Below.refl _ _) | (with_reducible assumption) | (with_reducible refine bl_alloc ?_ _) | (with_reducible refine bl_drew ?_) | (with_reducible refine bl_drewN ?_ _) | ((with_reducible refine bl_set ?_ ?hb _); (case hb => first | (simp; done) | omega | (simp; omega))) | (with_reducible refine bl_trans ?_ (by assumption))))⟩
      case measure => simp [intOf]; omega
    · obtain rfl : k = n' := by omega
      go_wp2
      go_ret
      exact ⟨ret_int (by rw [hl']), hb⟩
set_option maxHeartbeats 1000000 in
theorem handWay_any (A : Option Addr) (n c : Nat) (xs : List Box) (A' : Option Addr) (n' c' : Nat) (cs : List ByteArray) (w : World) (hr : Rd cBox 4 w w.heap.size A n xs) (hrs : Rd cS 1 w w.heap.size A' n' cs) (hn : n ≤ 1048576) (hw : WayArg xs cs) :
    Calls Try.prog 48 #[.slice A n c, .slice A' n' c'] w fun e w' => e = .returned (.int .i64 ((wayTo xs cs cs.length).sum)) ∧ Below w.heap.size w w' := by
  have hl := hr.1
  have hl' := hrs.1
  obtain ⟨hx, hcs, hlen⟩ := hw
  have HOK := Lib.hid (wayTo_ok (cs := cs) hx)
  have HX := Lib.hid hx
  have HCS := Lib.hid hcs
  clear hx hcs
  go_enter Try.func48, Try.ntmps48
  go_wp2
  go_loopw [5, 6, 7, 13] (fun p q t i wr => ∃ k : Nat, k ≤ n' ∧ i = .int .i64 k ∧ q = .int .i64 (wayTo xs cs k).row ∧ t = .int .i64 (wayTo xs cs k).col ∧ p = .int .i64 (wayTo xs cs k).sum ∧ Below w.heap.size w wr) (fun _ _ _ i _ => n' - (intOf i).toNat)
  case atStart => exact ⟨0, Nat.zero_le _, rfl, rfl, rfl, rfl, Below.refl _ _⟩
  case round =>
    obtain ⟨k, hk, rfl, rfl, rfl, rfl, hb⟩ := hrel
    by_cases hlt : k < n'
    · obtain ⟨b, off, s, rfl, hbB, hs, c0⟩ := (hrs.below hb).atS hlt
      have hneg := HCS.out s (List.mem_of_getElem? hs)
      obtain ⟨i, x, hfi, hin, hxi, _⟩ : ∃ (i : Nat) (x : Box), findI (codeB s) xs = (i : Int) ∧ i < xs.length ∧ xs[i]? = some x ∧ codeB s x = true := by
        rcases find_cases (codeB s) xs with h | h
        · omega
        · exact h
      have hstep := wayTo_snoc hs hfi hxi
      obtain ⟨b1, b2, _⟩ := box_bd (HX.out x (List.mem_of_getElem? hxi))
      have hok := HOK.out k
      obtain ⟨⟨qr, qc, qs⟩, hS⟩ : ∃ S, wayTo xs cs k = S := ⟨_, rfl⟩
      rw [hS] at hstep hok
      rw [hS]
      obtain ⟨r1, r2, r3, r4⟩ := hok
      dsimp only at hstep r1 r2 r3 r4
      dsimp only
      have a1 := absI_bd b1 r1
      have a2 := absI_bd b2 r2
      have e1 : IntKind.i64.wrap (x.row - qr) = x.row - qr := IntWalk.i64_in _ (by omega)
      have e2 : IntKind.i64.wrap (x.col - qc) = x.col - qc := IntWalk.i64_in _ (by omega)
      have e3 : IntKind.i64.wrap (absI (x.row - qr) + absI (x.col - qc)) = absI (x.row - qr) + absI (x.col - qc) := IntWalk.i64_in _ (by omega)
      have e4 : IntKind.i64.wrap (qs + (absI (x.row - qr) + absI (x.col - qc))) = qs + (absI (x.row - qr) + absI (x.col - qc)) := IntWalk.i64_in _ (by omega)
      have HST := Lib.hid hstep
      have HFI := Lib.hid hfi
      have HXI := Lib.hid hxi
      have HB := Lib.hid hb
      have hrr := hr.below hb
      have hBs := hb.size
      have HRR := Lib.hid hrr
      clear hS hstep hs hfi hxi hb hrr hneg
      go_wp2_with fail
      refine (boxAt_any _ _ _ _ xs s _ HRR.out hBs hn).mono ?_
      rw [HFI.out]
      rintro e w2 ⟨rfl, hb⟩
      obtain ⟨bb, offb, y, rfl, hbbB, hy, d0, d1, d2, d3⟩ := (HRR.out.below (hb.mono hBs)).atBox (show i < n by omega)
      obtain rfl : x = y := by have := HXI.out; rw [this] at hy; exact Option.some.inj hy
      have HB2 := Lib.hid (bl_trans HB.out hb)
      clear hb hy
      have i0 : (0 : Int) ≤ (i : Int) := by omega
      have i1 : (i : Int) < (n : Int) := by omega
      go_wp2
      go_region_held3 (fun w' => w'.cell? ⟨w2.heap.size, 1, none⟩ = some (.int .i64 x.row) ∧ w'.cell? ⟨w2.heap.size, 2, none⟩ = some (.int .i64 x.col)) (go_keep) (first | (go_at_call 44; refine (abs_any _ _ (by omega) (by omega)).mono ?_; rintro e w' ⟨rfl, rfl⟩))
      go_wp2
      go_region_held3 (fun w' => w'.cell? ⟨w2.heap.size, 1, none⟩ = some (.int .i64 x.row) ∧ w'.cell? ⟨w2.heap.size, 2, none⟩ = some (.int .i64 x.col)) (go_keep) (fail)
      go_wp2
      go_roundw
      case rel => exact ⟨k + 1, by omega, by go_num, by rw [HST.out], by rw [HST.out], by rw [HST.out], bl_trans HB2.out (by repeat (first | (with_reducible exact Below.refl _ _) | (with_reducible assumption) | (with_reducible refine bl_alloc ?_ _) | (with_reducible refine bl_drew ?_) | (with_reducible refine bl_drewN ?_ _) | ((with_reducible refine bl_set ?_ ?hb _); (case hb => first | (simp; done) | omega | (simp; omega))) | (with_reducible refine bl_trans ?_ (by assumption))))⟩
      case measure => simp [intOf]; omega
    · obtain rfl : k = n' := by omega
      go_wp2
      go_ret
      exact ⟨ret_int (by rw [hl']), hb⟩
end Go.Proofs.Ytjeehkiebalbmaa
