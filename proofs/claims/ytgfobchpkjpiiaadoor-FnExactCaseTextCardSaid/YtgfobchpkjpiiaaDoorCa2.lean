/-
  Cases: is a place taken; contracts.
-/
import Derived.Test.YtgfobchpkjpiiaaDoorCa1
import Derived.Test.YtgfobchpkjpiiaaDoorTko
import Derived.Deep.RegionHeld3
namespace Go.Proofs.YtgfobchpkjpiiaaDoor
open Go.RowKit
set_option linter.unusedVariables false
attribute [local go_sem ↓] Go.wp_at_zero Go.wp_at_succ

theorem rd_takeG {α : Type} {c : α → Nat → Value} {sz : Nat} {w : World} {B : Nat} {A : Option Addr} {n : Nat} {xs : List α} (h : Rd c sz w B A n xs) {k : Nat} (hk : k ≤ n) : Rd c sz w B A k (xs.take k) := by
  have hl := h.1
  refine ⟨by simp; omega, fun h0 => ?_⟩
  obtain ⟨b, off, e, hb, hc⟩ := h.2 (by omega)
  refine ⟨b, off, e, hb, fun i x hx j hj => hc i x ?_ j hj⟩
  rw [List.getElem?_take] at hx
  split at hx
  · exact hx
  · cases hx
/-! ### places -/
def atB (r c : Int) (x : Box) : Bool := x.row == r && x.col == c
def takenB (xs : List Box) (r c : Int) : Bool := xs.any (atB r c)
theorem any_hit {α : Type} {xs : List α} {p : α → Bool} {k : Nat} {x : α} (h : xs[k]? = some x) (hp : p x = true) : xs.any p = true := by
  rw [List.any_eq_true]
  exact ⟨x, List.mem_of_getElem? h, hp⟩
theorem any_none {α : Type} {xs : List α} {p : α → Bool} {k : Nat} (hk : xs.length ≤ k) (h : (xs.take k).all (fun y => !p y) = true) : xs.any p = false := by
  rw [List.take_of_length_le hk] at h
  rw [List.any_eq_false]
  intro x hx
  have := List.all_eq_true.1 h x hx
  simpa using this
set_option maxHeartbeats 1000000 in
theorem isTaken_any (A : Option Addr) (n cp B : Nat) (xs : List Box) (r c : Int) (w : World) (hr : Rd cBox 4 w B A n xs) (hB : B ≤ w.heap.size) (hn : n ≤ 1048576) :
    Calls Tryd.prog 80 #[.slice A n cp, .int .i64 r, .int .i64 c] w fun e w' => e = .returned (.bool (takenB xs r c)) ∧ Below w.heap.size w w' := by
  have hl := hr.1
  go_enter Tryd.func80, Tryd.ntmps80
  go_wp2
  go_loopw [11] (fun i wr => ∃ k : Nat, k ≤ n ∧ i = .int .i64 k ∧ Below w.heap.size w wr ∧ Hid ((xs.take k).all (fun y => !atB r c y) = true)) (fun i _ => n - (intOf i).toNat)
  case atStart => exact ⟨0, Nat.zero_le _, rfl, Below.refl _ _, rfl⟩
  case round =>
    obtain ⟨k, hk, rfl, hb, HA⟩ := hrel
    by_cases hlt : k < n
    · obtain ⟨b, off, x, rfl, hbB, hx, c0, c1, c2, c3⟩ := (hr.below (hb.mono hB)).atBox hlt
      have HX := Lib.hid hx
      have HB := Lib.hid hb
      clear hx hb
      rcases h1 : (x.row == r) with _ | _
      · have HI := Lib.hid (show (!atB r c x) = true by simp [atB, h1])
        go_wp2
        go_roundw
        case rel => exact ⟨k + 1, by omega, by go_num, bl_trans HB.out (bl_alloc (Below.refl _ _) _), all_snoc (p := fun y => !atB r c y) HX.out HA.out HI.out⟩
        case measure => simp [intOf]; omega
      · rcases h2 : (x.col == c) with _ | _
        · have HI := Lib.hid (show (!atB r c x) = true by simp [atB, h2])
          go_wp2
          go_roundw
          case rel => exact ⟨k + 1, by omega, by go_num, bl_trans HB.out (bl_alloc (Below.refl _ _) _), all_snoc (p := fun y => !atB r c y) HX.out HA.out HI.out⟩
          case measure => simp [intOf]; omega
        · have HI := Lib.hid (show atB r c x = true by simp [atB, h1, h2])
          go_wp2
          go_ret
          exact ⟨ret_bool (any_hit HX.out HI.out).symm, bl_trans HB.out (bl_alloc (Below.refl _ _) _)⟩
    · have HE := Lib.hid (any_none (by omega) HA.out)
      go_wp2
      go_ret
      exact ⟨ret_bool HE.out.symm, hb⟩
/-! ### cases -/
def lessAt (xs : List Box) (k : Nat) (x : Box) : Bool := match xs[k]? with | some y => Op.bytesLess y.code.toList x.code.toList | none => true
def caseAt (xs : List Box) (k : Nat) : Bool := match xs[k]? with | some x => boxB x && ((k == 0 || lessAt xs (k - 1) x) && !takenB (xs.take k) x.row x.col) | none => true
def caseTo (xs : List Box) (k : Nat) : Bool := (List.range k).all (caseAt xs)
def caseB (xs : List Box) : Bool := caseTo xs xs.length && inB xs.length 1 32
theorem caseTo_snoc {xs : List Box} {k : Nat} (h : caseTo xs k = true) (h2 : caseAt xs k = true) : caseTo xs (k + 1) = true := by
  unfold caseTo at h ⊢
  rw [List.range_succ, List.all_append, h]
  simpa using h2
theorem case_no {xs : List Box} {k : Nat} (hk : k < xs.length) (h : caseAt xs k = false) : caseB xs = false := by
  unfold caseB caseTo
  rw [Bool.and_eq_false_iff]
  left
  rw [List.all_eq_false]
  exact ⟨k, List.mem_range.2 hk, by simp [h]⟩
theorem case_end {xs : List Box} {k : Nat} (hk : k = xs.length) (h : caseTo xs k = true) : caseB xs = inB xs.length 1 32 := by
  subst hk
  unfold caseB
  rw [h, Bool.true_and]
theorem case_len {xs : List Box} (h : caseB xs = true) : 1 ≤ xs.length ∧ xs.length ≤ 32 := by
  unfold caseB at h
  rw [Bool.and_eq_true] at h
  have := inB_iff.1 h.2
  omega
theorem case_each {xs : List Box} (h : caseB xs = true) {k : Nat} {x : Box} (hx : xs[k]? = some x) : boxB x = true ∧ takenB (xs.take k) x.row x.col = false := by
  have hk := (List.getElem?_eq_some_iff.1 hx).1
  unfold caseB at h
  rw [Bool.and_eq_true] at h
  have := List.all_eq_true.1 h.1 k (List.mem_range.2 hk)
  simp [caseAt, hx] at this
  exact ⟨this.1, this.2.2⟩
theorem caseAt_bad {xs : List Box} {k : Nat} {x : Box} (h : xs[k]? = some x) (hx : boxB x = false) : caseAt xs k = false := by simp [caseAt, h, hx]
theorem caseAt_zero {xs : List Box} {x : Box} (h : xs[0]? = some x) (hx : boxB x = true) : caseAt xs 0 = true := by simp [caseAt, h, hx, takenB]
theorem caseAt_less {xs : List Box} {k : Nat} {x y : Box} (h : xs[k]? = some x) (hy : xs[k - 1]? = some y) (hk : 0 < k) (hl : Op.bytesLess y.code.toList x.code.toList = false) : caseAt xs k = false := by
  have : (k == 0) = false := by simp; omega
  simp [caseAt, h, lessAt, hy, this, hl]
theorem caseAt_step {xs : List Box} {k : Nat} {x y : Box} (h : xs[k]? = some x) (hy : xs[k - 1]? = some y) (hk : 0 < k) (hx : boxB x = true) (hl : Op.bytesLess y.code.toList x.code.toList = true) : caseAt xs k = !takenB (xs.take k) x.row x.col := by
  have : (k == 0) = false := by simp; omega
  simp [caseAt, h, lessAt, hy, this, hl, hx]
set_option maxHeartbeats 2000000 in
theorem implIsCase_any (A : Option Addr) (n cp B : Nat) (xs : List Box) (w : World) (hr : Rd cBox 4 w B A n xs) (hB : B ≤ w.heap.size) (hn : n ≤ 1048576) (hok : ∀ x ∈ xs, okBox x) (hcap : n ≤ cp) :
    Calls Tryd.prog 56 #[.slice A n cp] w fun e w' => e = .returned (.bool (caseB xs)) ∧ Below w.heap.size w w' := by
  have HOK := Lib.hid hok
  clear hok
  have hl := hr.1
  go_enter Tryd.func56, Tryd.ntmps56
  go_wp2
  go_loopw [7] (fun i wr => ∃ k : Nat, k ≤ n ∧ i = .int .i64 k ∧ Below w.heap.size w wr ∧ Hid (caseTo xs k = true)) (fun i _ => n - (intOf i).toNat)
  case atStart => exact ⟨0, Nat.zero_le _, rfl, Below.refl _ _, rfl⟩
  case round =>
    obtain ⟨k, hk, rfl, hb, HA⟩ := hrel
    by_cases hlt : k < n
    · obtain ⟨b, off, rfl, hbB, hcell⟩ := (hr.below (hb.mono hB)).2 (by omega)
      obtain ⟨x, hx⟩ : ∃ x, xs[k]? = some x := ⟨xs[k]'(by omega), List.getElem?_eq_getElem _⟩
      have c0 : wr.cell? ⟨b, off + k * 4, none⟩ = some (.string x.code) := by simpa [cBox] using hcell k x hx 0 (by omega)
      have c1 : wr.cell? ⟨b, off + k * 4 + 1, none⟩ = some (.int .i64 x.row) := by simpa [cBox] using hcell k x hx 1 (by omega)
      have c2 : wr.cell? ⟨b, off + k * 4 + 2, none⟩ = some (.int .i64 x.col) := by simpa [cBox] using hcell k x hx 2 (by omega)
      have c3 : wr.cell? ⟨b, off + k * 4 + 3, none⟩ = some (.int .i64 x.cnt) := by simpa [cBox] using hcell k x hx 3 (by omega)
      have hsz := (HOK.out x (List.mem_of_getElem? hx)).1
      have hbw : b < wr.heap.size := by have := hb.size; omega
      have HX := Lib.hid hx
      have HB := Lib.hid hb
      have HC := Lib.hid hcell
      have HRK := Lib.hid (fun (W : World) (h : Below wr.heap.size wr W) => (rd_takeG (hr.below ((hb.mono hB).trans (h.mono (by have := hb.size; omega)))) hk))
      have hBw : B ≤ wr.heap.size := by have := hb.size; omega
      clear hx hb hcell
      have hne : b ≠ wr.heap.size := by omega
      have hne' : wr.heap.size ≠ b := by omega
      have k0 : (0 : Int) ≤ (k : Int) := by omega
      have k1 : (k : Int) ≤ (cp : Int) := by omega
      rcases hin : boxB x with _ | _
      · have HI := Lib.hid hin
        go_wp2_with fail
        refine wp_region_noPanic ?_
        refine wp_region_held_drew (S := (fun w' => w'.cell? ⟨wr.heap.size, 0, none⟩ = some (.string x.code) ∧ w'.cell? ⟨wr.heap.size, 1, none⟩ = some (.int .i64 x.row) ∧ w'.cell? ⟨wr.heap.size, 2, none⟩ = some (.int .i64 x.col) ∧ w'.cell? ⟨wr.heap.size, 3, none⟩ = some (.int .i64 x.cnt))) (by kernel_rfl) (by (try dsimp only); go_keep) (fun hHeld => ?_)
        refine take_of (some 12) (i := 0) (v := ?vq1_0) rfl rfl (by kernel_rfl) (by kernel_rfl) (by kernel_rfl) (fun _ _ _ h => h) (Or.inl ⟨by rfl, ?hyq1_0⟩) (by assumption) ?restq1_0
        case hyq1_0 => (intro w hSw; (try dsimp only at hSw); go_simp; try with_reducible rfl)
        try simp only [Act.put, List.setIfInBounds_toArray, List.set_cons_zero, List.set_cons_succ]
        refine wpAnyH_ready (rs := [1]) (by kernel_rfl) (by simp) ?_
        refine AllReadyH.cons rfl (fun K hK => ?_) AllReadyH.nil
        go_simp
        (go_at_call 79; refine (implIsBox_any x _ hsz).mono ?_; rw [HI.out]; rintro e w' ⟨rfl, hb⟩; obtain ⟨hc1, hf1, hz1⟩ := bl_at hb (k := wr.heap.size) (by first | assumption | (simp; done) | (simp; omega)); obtain ⟨hc2, hf2, hz2⟩ := bl_at hb (k := b) (by first | assumption | (simp; done) | (simp; omega)))
        go_wp2_with fail
        refine hK.out _ _ (by (try dsimp only); go_keep) (fun hHeld => ?_)
        clear hK K
        try simp only [Act.put, List.setIfInBounds_toArray, List.set_cons_zero, List.set_cons_succ]
        refine take_of (some 14) (i := 2) (v := ?vq1_2) rfl rfl (by kernel_rfl) (by kernel_rfl) (by kernel_rfl) (fun _ _ _ h => h) (Or.inl ⟨by rfl, ?hyq1_2⟩) (by assumption) ?restq1_2
        case hyq1_2 => (intro w hSw; (try dsimp only at hSw); go_simp; try with_reducible rfl)
        try simp only [Act.put, List.setIfInBounds_toArray, List.set_cons_zero, List.set_cons_succ]
        refine take_of (some 15) (i := 3) (v := ?vq1_3) rfl rfl (by kernel_rfl) (by kernel_rfl) (by kernel_rfl) (fun _ _ _ h => h) (Or.inl ⟨by rfl, ?hyq1_3⟩) (by assumption) ?restq1_3
        case hyq1_3 => (intro w hSw; (try dsimp only at hSw); go_simp; try with_reducible rfl)
        try simp only [Act.put, List.setIfInBounds_toArray, List.set_cons_zero, List.set_cons_succ]
        refine take_of (some 16) (i := 4) (v := undef) rfl rfl (by kernel_rfl) (by kernel_rfl) (by kernel_rfl) (fun _ _ _ h => h) (Or.inr ⟨by rfl, rfl⟩) (by assumption) ?_
        try simp only [Act.put, List.setIfInBounds_toArray, List.set_cons_zero, List.set_cons_succ]
        refine take_of (some 17) (i := 5) (v := undef) rfl rfl (by kernel_rfl) (by kernel_rfl) (by kernel_rfl) (fun _ _ _ h => h) (Or.inr ⟨by rfl, rfl⟩) (by assumption) ?_
        try simp only [Act.put, List.setIfInBounds_toArray, List.set_cons_zero, List.set_cons_succ]
        refine take_of (some 18) (i := 6) (v := undef) rfl rfl (by kernel_rfl) (by kernel_rfl) (by kernel_rfl) (fun _ _ _ h => h) (Or.inr ⟨by rfl, rfl⟩) (by assumption) ?_
        try simp only [Act.put, List.setIfInBounds_toArray, List.set_cons_zero, List.set_cons_succ]
        refine take_of (some 19) (i := 7) (v := undef) rfl rfl (by kernel_rfl) (by kernel_rfl) (by kernel_rfl) (fun _ _ _ h => h) (Or.inr ⟨by rfl, rfl⟩) (by assumption) ?_
        try simp only [Act.put, List.setIfInBounds_toArray, List.set_cons_zero, List.set_cons_succ]
        refine take_of (some 20) (i := 8) (v := undef) rfl rfl (by kernel_rfl) (by kernel_rfl) (by kernel_rfl) (fun _ _ _ h => h) (Or.inr ⟨by rfl, rfl⟩) (by assumption) ?_
        try simp only [Act.put, List.setIfInBounds_toArray, List.set_cons_zero, List.set_cons_succ]
        refine take_of (some 21) (i := 9) (v := undef) rfl rfl (by kernel_rfl) (by kernel_rfl) (by kernel_rfl) (fun _ _ _ h => h) (Or.inr ⟨by rfl, rfl⟩) (by assumption) ?_
        try simp only [Act.put, List.setIfInBounds_toArray, List.set_cons_zero, List.set_cons_succ]
        refine take_of (some 22) (i := 10) (v := undef) rfl rfl (by kernel_rfl) (by kernel_rfl) (by kernel_rfl) (fun _ _ _ h => h) (Or.inr ⟨by rfl, rfl⟩) (by assumption) ?_
        try simp only [Act.put, List.setIfInBounds_toArray, List.set_cons_zero, List.set_cons_succ]
        refine take_of (some 23) (i := 11) (v := undef) rfl rfl (by kernel_rfl) (by kernel_rfl) (by kernel_rfl) (fun _ _ _ h => h) (Or.inr ⟨by rfl, rfl⟩) (by assumption) ?_
        try simp only [Act.put, List.setIfInBounds_toArray, List.set_cons_zero, List.set_cons_succ]
        refine take_of (some 24) (i := 12) (v := undef) rfl rfl (by kernel_rfl) (by kernel_rfl) (by kernel_rfl) (fun _ _ _ h => h) (Or.inr ⟨by rfl, rfl⟩) (by assumption) ?_
        try simp only [Act.put, List.setIfInBounds_toArray, List.set_cons_zero, List.set_cons_succ]
        refine take_of (some 25) (i := 13) (v := undef) rfl rfl (by kernel_rfl) (by kernel_rfl) (by kernel_rfl) (fun _ _ _ h => h) (Or.inr ⟨by rfl, rfl⟩) (by assumption) ?_
        try simp only [Act.put, List.setIfInBounds_toArray, List.set_cons_zero, List.set_cons_succ]
        refine take_of (some 26) (i := 14) (v := undef) rfl rfl (by kernel_rfl) (by kernel_rfl) (by kernel_rfl) (fun _ _ _ h => h) (Or.inr ⟨by rfl, rfl⟩) (by assumption) ?_
        try simp only [Act.put, List.setIfInBounds_toArray, List.set_cons_zero, List.set_cons_succ]
        refine take_of (some 27) (i := 15) (v := undef) rfl rfl (by kernel_rfl) (by kernel_rfl) (by kernel_rfl) (fun _ _ _ h => h) (Or.inr ⟨by rfl, rfl⟩) (by assumption) ?_
        try simp only [Act.put, List.setIfInBounds_toArray, List.set_cons_zero, List.set_cons_succ]
        refine take_of (some 28) (i := 16) (v := undef) rfl rfl (by kernel_rfl) (by kernel_rfl) (by kernel_rfl) (fun _ _ _ h => h) (Or.inr ⟨by rfl, rfl⟩) (by assumption) ?_
        try simp only [Act.put, List.setIfInBounds_toArray, List.set_cons_zero, List.set_cons_succ]
        refine take_of (some 29) (i := 17) (v := ?vq1_17) rfl rfl (by kernel_rfl) (by kernel_rfl) (by kernel_rfl) (fun _ _ _ h => h) (Or.inl ⟨by rfl, ?hyq1_17⟩) (by assumption) ?restq1_17
        case hyq1_17 => (intro w hSw; (try dsimp only at hSw); go_simp; try with_reducible rfl)
        try simp only [Act.put, List.setIfInBounds_toArray, List.set_cons_zero, List.set_cons_succ]
        refine take_of (some 30) (i := 18) (v := ?vq1_18) rfl rfl (by kernel_rfl) (by kernel_rfl) (by kernel_rfl) (fun _ _ _ h => h) (Or.inl ⟨by rfl, ?hyq1_18⟩) (by assumption) ?restq1_18
        case hyq1_18 => (intro w hSw; (try dsimp only at hSw); go_simp; try with_reducible rfl)
        try simp only [Act.put, List.setIfInBounds_toArray, List.set_cons_zero, List.set_cons_succ]
        refine take_of (some 31) (i := 19) (v := undef) rfl rfl (by kernel_rfl) (by kernel_rfl) (by kernel_rfl) (fun _ _ _ h => h) (Or.inr ⟨by rfl, rfl⟩) (by assumption) ?_
        try simp only [Act.put, List.setIfInBounds_toArray, List.set_cons_zero, List.set_cons_succ]
        refine take_of (some 32) (i := 20) (v := undef) rfl rfl (by kernel_rfl) (by kernel_rfl) (by kernel_rfl) (fun _ _ _ h => h) (Or.inr ⟨by rfl, rfl⟩) (by assumption) ?_
        try simp only [Act.put, List.setIfInBounds_toArray, List.set_cons_zero, List.set_cons_succ]
        refine take_of (some 33) (i := 21) (v := undef) rfl rfl (by kernel_rfl) (by kernel_rfl) (by kernel_rfl) (fun _ _ _ h => h) (Or.inr ⟨by rfl, rfl⟩) (by assumption) ?_
        try simp only [Act.put, List.setIfInBounds_toArray, List.set_cons_zero, List.set_cons_succ]
        refine take_of (some 34) (i := 22) (v := undef) rfl rfl (by kernel_rfl) (by kernel_rfl) (by kernel_rfl) (fun _ _ _ h => h) (Or.inr ⟨by rfl, rfl⟩) (by assumption) ?_
        try simp only [Act.put, List.setIfInBounds_toArray, List.set_cons_zero, List.set_cons_succ]
        refine take_of (some 35) (i := 23) (v := undef) rfl rfl (by kernel_rfl) (by kernel_rfl) (by kernel_rfl) (fun _ _ _ h => h) (Or.inr ⟨by rfl, rfl⟩) (by assumption) ?_
        try simp only [Act.put, List.setIfInBounds_toArray, List.set_cons_zero, List.set_cons_succ]
        refine take_of (some 36) (i := 24) (v := undef) rfl rfl (by kernel_rfl) (by kernel_rfl) (by kernel_rfl) (fun _ _ _ h => h) (Or.inr ⟨by rfl, rfl⟩) (by assumption) ?_
        try simp only [Act.put, List.setIfInBounds_toArray, List.set_cons_zero, List.set_cons_succ]
        refine take_of (some 37) (i := 25) (v := undef) rfl rfl (by kernel_rfl) (by kernel_rfl) (by kernel_rfl) (fun _ _ _ h => h) (Or.inr ⟨by rfl, rfl⟩) (by assumption) ?_
        try simp only [Act.put, List.setIfInBounds_toArray, List.set_cons_zero, List.set_cons_succ]
        refine take_of (some 38) (i := 26) (v := undef) rfl rfl (by kernel_rfl) (by kernel_rfl) (by kernel_rfl) (fun _ _ _ h => h) (Or.inr ⟨by rfl, rfl⟩) (by assumption) ?_
        try simp only [Act.put, List.setIfInBounds_toArray, List.set_cons_zero, List.set_cons_succ]
        refine take_of (some 39) (i := 27) (v := ?vq1_27) rfl rfl (by kernel_rfl) (by kernel_rfl) (by kernel_rfl) (fun _ _ _ h => h) (Or.inl ⟨by rfl, ?hyq1_27⟩) (by assumption) ?restq1_27
        case hyq1_27 => (intro w hSw; (try dsimp only at hSw); go_simp; try with_reducible rfl)
        try simp only [Act.put, List.setIfInBounds_toArray, List.set_cons_zero, List.set_cons_succ]
        refine wpAnyH_done (by kernel_rfl) ?_ _
        refine NoPanic.normal ?_
        have HBn := Lib.hid (show Below w.heap.size w w' by have hbx := HB.out; exact by repeat (first | (with_reducible exact Below.refl _ _) | (with_reducible assumption) | (with_reducible refine bl_alloc ?_ _) | (with_reducible refine bl_drew ?_) | (with_reducible refine bl_drewN ?_ _) | ((with_reducible refine bl_set ?_ ?hb _); (case hb => first | (simp; done) | omega | (simp; omega))) | (with_reducible refine bl_trans ?_ (by assumption))))
        clear hb hc1 hf1 hc2 hf2
        go_wp2
        go_ret
        exact ⟨ret_bool (case_no (by omega) (caseAt_bad HX.out HI.out)).symm, HBn.out⟩
      · have HI := Lib.hid hin
        by_cases hk0 : 0 < k
        · obtain ⟨y, hy⟩ : ∃ y, xs[k - 1]? = some y := ⟨xs[k - 1]'(by omega), List.getElem?_eq_getElem _⟩
          have cp0 : wr.cell? ⟨b, off + (k - 1) * 4, none⟩ = some (.string y.code) := by simpa [cBox] using HC.out (k - 1) y hy 0 (by omega)
          have HY := Lib.hid hy
          clear hy
          have hkd : decide ((0 : Int) < (k : Int)) = true := by simp; omega
          have b0 : (0 : Int) ≤ ((k - 1 : Nat) : Int) := by omega
          have b1 : ((k - 1 : Nat) : Int) < (n : Int) := by omega
          have e1 : IntKind.i64.wrap ((k : Int) - 1) = ((k - 1 : Nat) : Int) := by rw [IntWalk.i64_in _ (by omega)]; omega
          rcases hls : Op.bytesLess y.code.toList x.code.toList with _ | _
          · have HF := Lib.hid (caseAt_less HX.out HY.out hk0 hls)
            go_wp2_with fail
            refine wp_region_noPanic ?_
            refine wp_region_held_drew (S := (fun w' => w'.cell? ⟨wr.heap.size, 0, none⟩ = some (.string x.code) ∧ w'.cell? ⟨wr.heap.size, 1, none⟩ = some (.int .i64 x.row) ∧ w'.cell? ⟨wr.heap.size, 2, none⟩ = some (.int .i64 x.col) ∧ w'.cell? ⟨wr.heap.size, 3, none⟩ = some (.int .i64 x.cnt) ∧ w'.cell? ⟨b, off + (k - 1) * 4, none⟩ = some (.string y.code))) (by kernel_rfl) (by (try dsimp only); go_keep) (fun hHeld => ?_)
            refine take_of (some 12) (i := 0) (v := ?vq2_0) rfl rfl (by kernel_rfl) (by kernel_rfl) (by kernel_rfl) (fun _ _ _ h => h) (Or.inl ⟨by rfl, ?hyq2_0⟩) (by assumption) ?restq2_0
            case hyq2_0 => (intro w hSw; (try dsimp only at hSw); go_simp; try with_reducible rfl)
            try simp only [Act.put, List.setIfInBounds_toArray, List.set_cons_zero, List.set_cons_succ]
            refine wpAnyH_ready (rs := [1]) (by kernel_rfl) (by simp) ?_
            refine AllReadyH.cons rfl (fun K hK => ?_) AllReadyH.nil
            go_simp
            (go_at_call 79; refine (implIsBox_any x _ hsz).mono ?_; rw [HI.out]; rintro e w' ⟨rfl, hb⟩; obtain ⟨hc1, hf1, hz1⟩ := bl_at hb (k := wr.heap.size) (by first | assumption | (simp; done) | (simp; omega)); obtain ⟨hc2, hf2, hz2⟩ := bl_at hb (k := b) (by first | assumption | (simp; done) | (simp; omega)))
            go_wp2_with fail
            refine hK.out _ _ (by (try dsimp only); go_keep) (fun hHeld => ?_)
            clear hK K
            try simp only [Act.put, List.setIfInBounds_toArray, List.set_cons_zero, List.set_cons_succ]
            refine take_of (some 14) (i := 2) (v := ?vq2_2) rfl rfl (by kernel_rfl) (by kernel_rfl) (by kernel_rfl) (fun _ _ _ h => h) (Or.inl ⟨by rfl, ?hyq2_2⟩) (by assumption) ?restq2_2
            case hyq2_2 => (intro w hSw; (try dsimp only at hSw); go_simp; try with_reducible rfl)
            try simp only [Act.put, List.setIfInBounds_toArray, List.set_cons_zero, List.set_cons_succ]
            refine take_of (some 15) (i := 3) (v := ?vq2_3) rfl rfl (by kernel_rfl) (by kernel_rfl) (by kernel_rfl) (fun _ _ _ h => h) (Or.inl ⟨by rfl, ?hyq2_3⟩) (by assumption) ?restq2_3
            case hyq2_3 => (intro w hSw; (try dsimp only at hSw); go_simp; try with_reducible rfl)
            try simp only [Act.put, List.setIfInBounds_toArray, List.set_cons_zero, List.set_cons_succ]
            refine take_of (some 16) (i := 4) (v := ?vq2_4) rfl rfl (by kernel_rfl) (by kernel_rfl) (by kernel_rfl) (fun _ _ _ h => h) (Or.inl ⟨by rfl, ?hyq2_4⟩) (by assumption) ?restq2_4
            case hyq2_4 => (intro w hSw; (try dsimp only at hSw); go_simp; try with_reducible rfl)
            try simp only [Act.put, List.setIfInBounds_toArray, List.set_cons_zero, List.set_cons_succ]
            refine take_of (some 17) (i := 5) (v := ?vq2_5) rfl rfl (by kernel_rfl) (by kernel_rfl) (by kernel_rfl) (fun _ _ _ h => h) (Or.inl ⟨by rfl, ?hyq2_5⟩) (by assumption) ?restq2_5
            case hyq2_5 => (intro w hSw; (try dsimp only at hSw); go_simp; try with_reducible rfl)
            try simp only [Act.put, List.setIfInBounds_toArray, List.set_cons_zero, List.set_cons_succ]
            refine take_of (some 18) (i := 6) (v := ?vq2_6) rfl rfl (by kernel_rfl) (by kernel_rfl) (by kernel_rfl) (fun _ _ _ h => h) (Or.inl ⟨by rfl, ?hyq2_6⟩) (by assumption) ?restq2_6
            case hyq2_6 => (intro w hSw; (try dsimp only at hSw); go_simp; try with_reducible rfl)
            try simp only [Act.put, List.setIfInBounds_toArray, List.set_cons_zero, List.set_cons_succ]
            refine take_of (some 19) (i := 7) (v := ?vq2_7) rfl rfl (by kernel_rfl) (by kernel_rfl) (by kernel_rfl) (fun _ _ _ h => h) (Or.inl ⟨by rfl, ?hyq2_7⟩) (by assumption) ?restq2_7
            case hyq2_7 => (intro w hSw; (try dsimp only at hSw); go_simp; try with_reducible rfl)
            try simp only [Act.put, List.setIfInBounds_toArray, List.set_cons_zero, List.set_cons_succ]
            refine take_of (some 20) (i := 8) (v := ?vq2_8) rfl rfl (by kernel_rfl) (by kernel_rfl) (by kernel_rfl) (fun _ _ _ h => h) (Or.inl ⟨by rfl, ?hyq2_8⟩) (by assumption) ?restq2_8
            case hyq2_8 => (intro w hSw; (try dsimp only at hSw); go_simp; try with_reducible rfl)
            try simp only [Act.put, List.setIfInBounds_toArray, List.set_cons_zero, List.set_cons_succ]
            refine take_of (some 21) (i := 9) (v := ?vq2_9) rfl rfl (by kernel_rfl) (by kernel_rfl) (by kernel_rfl) (fun _ _ _ h => h) (Or.inl ⟨by rfl, ?hyq2_9⟩) (by assumption) ?restq2_9
            case hyq2_9 => (intro w hSw; (try dsimp only at hSw); go_simp; try with_reducible rfl)
            try simp only [Act.put, List.setIfInBounds_toArray, List.set_cons_zero, List.set_cons_succ]
            refine take_of (some 22) (i := 10) (v := ?vq2_10) rfl rfl (by kernel_rfl) (by kernel_rfl) (by kernel_rfl) (fun _ _ _ h => h) (Or.inl ⟨by rfl, ?hyq2_10⟩) (by assumption) ?restq2_10
            case hyq2_10 => (intro w hSw; (try dsimp only at hSw); go_simp; try with_reducible rfl)
            try simp only [Act.put, List.setIfInBounds_toArray, List.set_cons_zero, List.set_cons_succ]
            refine take_of (some 23) (i := 11) (v := ?vq2_11) rfl rfl (by kernel_rfl) (by kernel_rfl) (by kernel_rfl) (fun _ _ _ h => h) (Or.inl ⟨by rfl, ?hyq2_11⟩) (by assumption) ?restq2_11
            case hyq2_11 => (intro w hSw; (try dsimp only at hSw); go_simp; try with_reducible rfl)
            try simp only [Act.put, List.setIfInBounds_toArray, List.set_cons_zero, List.set_cons_succ]
            refine take_of (some 24) (i := 12) (v := ?vq2_12) rfl rfl (by kernel_rfl) (by kernel_rfl) (by kernel_rfl) (fun _ _ _ h => h) (Or.inl ⟨by rfl, ?hyq2_12⟩) (by assumption) ?restq2_12
            case hyq2_12 => (intro w hSw; (try dsimp only at hSw); go_simp; try with_reducible rfl)
            try simp only [Act.put, List.setIfInBounds_toArray, List.set_cons_zero, List.set_cons_succ]
            refine take_of (some 25) (i := 13) (v := ?vq2_13) rfl rfl (by kernel_rfl) (by kernel_rfl) (by kernel_rfl) (fun _ _ _ h => h) (Or.inl ⟨by rfl, ?hyq2_13⟩) (by assumption) ?restq2_13
            case hyq2_13 => (intro w hSw; (try dsimp only at hSw); go_simp; try with_reducible rfl)
            try simp only [Act.put, List.setIfInBounds_toArray, List.set_cons_zero, List.set_cons_succ]
            refine take_of (some 26) (i := 14) (v := ?vq2_14) rfl rfl (by kernel_rfl) (by kernel_rfl) (by kernel_rfl) (fun _ _ _ h => h) (Or.inl ⟨by rfl, ?hyq2_14⟩) (by assumption) ?restq2_14
            case hyq2_14 => (intro w hSw; (try dsimp only at hSw); go_simp; try with_reducible rfl)
            try simp only [Act.put, List.setIfInBounds_toArray, List.set_cons_zero, List.set_cons_succ]
            refine take_of (some 27) (i := 15) (v := ?vq2_15) rfl rfl (by kernel_rfl) (by kernel_rfl) (by kernel_rfl) (fun _ _ _ h => h) (Or.inl ⟨by rfl, ?hyq2_15⟩) (by assumption) ?restq2_15
            case hyq2_15 => (intro w hSw; (try dsimp only at hSw); go_simp; try with_reducible rfl)
            try simp only [Act.put, List.setIfInBounds_toArray, List.set_cons_zero, List.set_cons_succ]
            refine take_of (some 28) (i := 16) (v := ?vq2_16) rfl rfl (by kernel_rfl) (by kernel_rfl) (by kernel_rfl) (fun _ _ _ h => h) (Or.inl ⟨by rfl, ?hyq2_16⟩) (by assumption) ?restq2_16
            case hyq2_16 => (intro w hSw; (try dsimp only at hSw); go_simp; try with_reducible rfl)
            try simp only [Act.put, List.setIfInBounds_toArray, List.set_cons_zero, List.set_cons_succ]
            refine take_of (some 29) (i := 17) (v := ?vq2_17) rfl rfl (by kernel_rfl) (by kernel_rfl) (by kernel_rfl) (fun _ _ _ h => h) (Or.inl ⟨by rfl, ?hyq2_17⟩) (by assumption) ?restq2_17
            case hyq2_17 => (intro w hSw; (try dsimp only at hSw); go_simp; try with_reducible rfl)
            try simp only [Act.put, List.setIfInBounds_toArray, List.set_cons_zero, List.set_cons_succ]
            refine take_of (some 30) (i := 18) (v := ?vq2_18) rfl rfl (by kernel_rfl) (by kernel_rfl) (by kernel_rfl) (fun _ _ _ h => h) (Or.inl ⟨by rfl, ?hyq2_18⟩) (by assumption) ?restq2_18
            case hyq2_18 => (intro w hSw; (try dsimp only at hSw); go_simp; try with_reducible rfl)
            try simp only [Act.put, List.setIfInBounds_toArray, List.set_cons_zero, List.set_cons_succ]
            refine take_of (some 31) (i := 19) (v := undef) rfl rfl (by kernel_rfl) (by kernel_rfl) (by kernel_rfl) (fun _ _ _ h => h) (Or.inr ⟨by rfl, rfl⟩) (by assumption) ?_
            try simp only [Act.put, List.setIfInBounds_toArray, List.set_cons_zero, List.set_cons_succ]
            refine take_of (some 32) (i := 20) (v := undef) rfl rfl (by kernel_rfl) (by kernel_rfl) (by kernel_rfl) (fun _ _ _ h => h) (Or.inr ⟨by rfl, rfl⟩) (by assumption) ?_
            try simp only [Act.put, List.setIfInBounds_toArray, List.set_cons_zero, List.set_cons_succ]
            refine take_of (some 33) (i := 21) (v := undef) rfl rfl (by kernel_rfl) (by kernel_rfl) (by kernel_rfl) (fun _ _ _ h => h) (Or.inr ⟨by rfl, rfl⟩) (by assumption) ?_
            try simp only [Act.put, List.setIfInBounds_toArray, List.set_cons_zero, List.set_cons_succ]
            refine take_of (some 34) (i := 22) (v := undef) rfl rfl (by kernel_rfl) (by kernel_rfl) (by kernel_rfl) (fun _ _ _ h => h) (Or.inr ⟨by rfl, rfl⟩) (by assumption) ?_
            try simp only [Act.put, List.setIfInBounds_toArray, List.set_cons_zero, List.set_cons_succ]
            refine take_of (some 35) (i := 23) (v := undef) rfl rfl (by kernel_rfl) (by kernel_rfl) (by kernel_rfl) (fun _ _ _ h => h) (Or.inr ⟨by rfl, rfl⟩) (by assumption) ?_
            try simp only [Act.put, List.setIfInBounds_toArray, List.set_cons_zero, List.set_cons_succ]
            refine take_of (some 36) (i := 24) (v := undef) rfl rfl (by kernel_rfl) (by kernel_rfl) (by kernel_rfl) (fun _ _ _ h => h) (Or.inr ⟨by rfl, rfl⟩) (by assumption) ?_
            try simp only [Act.put, List.setIfInBounds_toArray, List.set_cons_zero, List.set_cons_succ]
            refine take_of (some 37) (i := 25) (v := undef) rfl rfl (by kernel_rfl) (by kernel_rfl) (by kernel_rfl) (fun _ _ _ h => h) (Or.inr ⟨by rfl, rfl⟩) (by assumption) ?_
            try simp only [Act.put, List.setIfInBounds_toArray, List.set_cons_zero, List.set_cons_succ]
            refine take_of (some 38) (i := 26) (v := undef) rfl rfl (by kernel_rfl) (by kernel_rfl) (by kernel_rfl) (fun _ _ _ h => h) (Or.inr ⟨by rfl, rfl⟩) (by assumption) ?_
            try simp only [Act.put, List.setIfInBounds_toArray, List.set_cons_zero, List.set_cons_succ]
            refine take_of (some 39) (i := 27) (v := ?vq2_27) rfl rfl (by kernel_rfl) (by kernel_rfl) (by kernel_rfl) (fun _ _ _ h => h) (Or.inl ⟨by rfl, ?hyq2_27⟩) (by assumption) ?restq2_27
            case hyq2_27 => (intro w hSw; (try dsimp only at hSw); go_simp; try with_reducible rfl)
            try simp only [Act.put, List.setIfInBounds_toArray, List.set_cons_zero, List.set_cons_succ]
            refine wpAnyH_done (by kernel_rfl) ?_ _
            refine NoPanic.normal ?_
            have HBn := Lib.hid (show Below w.heap.size w w' by have hbx := HB.out; exact by repeat (first | (with_reducible exact Below.refl _ _) | (with_reducible assumption) | (with_reducible refine bl_alloc ?_ _) | (with_reducible refine bl_drew ?_) | (with_reducible refine bl_drewN ?_ _) | ((with_reducible refine bl_set ?_ ?hb _); (case hb => first | (simp; done) | omega | (simp; omega))) | (with_reducible refine bl_trans ?_ (by assumption))))
            clear hb hc1 hf1 hc2 hf2 e1
            go_wp2
            go_ret
            exact ⟨ret_bool (case_no (by omega) HF.out).symm, HBn.out⟩
          · have HST := Lib.hid (caseAt_step HX.out HY.out hk0 HI.out hls)
            rcases htk : takenB (xs.take k) x.row x.col with _ | _
            · have HF := Lib.hid (HST.out.trans (congrArg (!·) htk))
              have HTK := Lib.hid htk
              clear htk
              go_wp2_with fail
              refine wp_region_noPanic ?_
              refine wp_region_held_drew (S := (fun w' => w'.cell? ⟨wr.heap.size, 0, none⟩ = some (.string x.code) ∧ w'.cell? ⟨wr.heap.size, 1, none⟩ = some (.int .i64 x.row) ∧ w'.cell? ⟨wr.heap.size, 2, none⟩ = some (.int .i64 x.col) ∧ w'.cell? ⟨wr.heap.size, 3, none⟩ = some (.int .i64 x.cnt) ∧ w'.cell? ⟨b, off + (k - 1) * 4, none⟩ = some (.string y.code))) (by kernel_rfl) (by (try dsimp only); go_keep) (fun hHeld => ?_)
              refine take_of (some 12) (i := 0) (v := ?vq3_0) rfl rfl (by kernel_rfl) (by kernel_rfl) (by kernel_rfl) (fun _ _ _ h => h) (Or.inl ⟨by rfl, ?hyq3_0⟩) (by assumption) ?restq3_0
              case hyq3_0 => (intro w hSw; (try dsimp only at hSw); go_simp; try with_reducible rfl)
              try simp only [Act.put, List.setIfInBounds_toArray, List.set_cons_zero, List.set_cons_succ]
              refine wpAnyH_ready (rs := [1]) (by kernel_rfl) (by simp) ?_
              refine AllReadyH.cons rfl (fun K hK => ?_) AllReadyH.nil
              go_simp
              (first | (go_at_call 79; refine (implIsBox_any x _ hsz).mono ?_; rw [HI.out]; rintro e w' ⟨rfl, hb⟩; obtain ⟨hc1, hf1, hz1⟩ := bl_at hb (k := wr.heap.size) (by first | assumption | (simp; done) | (simp; omega)); obtain ⟨hc2, hf2, hz2⟩ := bl_at hb (k := b) (by first | assumption | (simp; done) | (simp; omega))) | (go_at_call 80; refine (isTaken_any _ _ _ _ (xs.take k) _ _ _ (HRK.out _ (by repeat (first | (with_reducible exact Below.refl _ _) | (with_reducible assumption) | (with_reducible refine bl_alloc ?_ _) | (with_reducible refine bl_drew ?_) | (with_reducible refine bl_drewN ?_ _) | ((with_reducible refine bl_set ?_ ?hb _); (case hb => first | (simp; done) | omega | (simp; omega))) | (with_reducible refine bl_trans ?_ (by assumption))))) (by have := hb.size; simp at this; omega) (by omega)).mono ?_; rw [HTK.out]; rintro e w'' ⟨rfl, hb''⟩; obtain ⟨hc3, hf3, hz3⟩ := bl_at hb'' (k := wr.heap.size) hz1; obtain ⟨hc4, hf4, hz4⟩ := bl_at hb'' (k := b) hz2))
              go_wp2_with fail
              refine hK.out _ _ (by (try dsimp only); go_keep) (fun hHeld => ?_)
              clear hK K
              try simp only [Act.put, List.setIfInBounds_toArray, List.set_cons_zero, List.set_cons_succ]
              refine take_of (some 14) (i := 2) (v := ?vq3_2) rfl rfl (by kernel_rfl) (by kernel_rfl) (by kernel_rfl) (fun _ _ _ h => h) (Or.inl ⟨by rfl, ?hyq3_2⟩) (by assumption) ?restq3_2
              case hyq3_2 => (intro w hSw; (try dsimp only at hSw); go_simp; try with_reducible rfl)
              try simp only [Act.put, List.setIfInBounds_toArray, List.set_cons_zero, List.set_cons_succ]
              refine take_of (some 15) (i := 3) (v := ?vq3_3) rfl rfl (by kernel_rfl) (by kernel_rfl) (by kernel_rfl) (fun _ _ _ h => h) (Or.inl ⟨by rfl, ?hyq3_3⟩) (by assumption) ?restq3_3
              case hyq3_3 => (intro w hSw; (try dsimp only at hSw); go_simp; try with_reducible rfl)
              try simp only [Act.put, List.setIfInBounds_toArray, List.set_cons_zero, List.set_cons_succ]
              refine take_of (some 16) (i := 4) (v := ?vq3_4) rfl rfl (by kernel_rfl) (by kernel_rfl) (by kernel_rfl) (fun _ _ _ h => h) (Or.inl ⟨by rfl, ?hyq3_4⟩) (by assumption) ?restq3_4
              case hyq3_4 => (intro w hSw; (try dsimp only at hSw); go_simp; try with_reducible rfl)
              try simp only [Act.put, List.setIfInBounds_toArray, List.set_cons_zero, List.set_cons_succ]
              refine take_of (some 17) (i := 5) (v := ?vq3_5) rfl rfl (by kernel_rfl) (by kernel_rfl) (by kernel_rfl) (fun _ _ _ h => h) (Or.inl ⟨by rfl, ?hyq3_5⟩) (by assumption) ?restq3_5
              case hyq3_5 => (intro w hSw; (try dsimp only at hSw); go_simp; try with_reducible rfl)
              try simp only [Act.put, List.setIfInBounds_toArray, List.set_cons_zero, List.set_cons_succ]
              refine take_of (some 18) (i := 6) (v := ?vq3_6) rfl rfl (by kernel_rfl) (by kernel_rfl) (by kernel_rfl) (fun _ _ _ h => h) (Or.inl ⟨by rfl, ?hyq3_6⟩) (by assumption) ?restq3_6
              case hyq3_6 => (intro w hSw; (try dsimp only at hSw); go_simp; try with_reducible rfl)
              try simp only [Act.put, List.setIfInBounds_toArray, List.set_cons_zero, List.set_cons_succ]
              refine take_of (some 19) (i := 7) (v := ?vq3_7) rfl rfl (by kernel_rfl) (by kernel_rfl) (by kernel_rfl) (fun _ _ _ h => h) (Or.inl ⟨by rfl, ?hyq3_7⟩) (by assumption) ?restq3_7
              case hyq3_7 => (intro w hSw; (try dsimp only at hSw); go_simp; try with_reducible rfl)
              try simp only [Act.put, List.setIfInBounds_toArray, List.set_cons_zero, List.set_cons_succ]
              refine take_of (some 20) (i := 8) (v := ?vq3_8) rfl rfl (by kernel_rfl) (by kernel_rfl) (by kernel_rfl) (fun _ _ _ h => h) (Or.inl ⟨by rfl, ?hyq3_8⟩) (by assumption) ?restq3_8
              case hyq3_8 => (intro w hSw; (try dsimp only at hSw); go_simp; try with_reducible rfl)
              try simp only [Act.put, List.setIfInBounds_toArray, List.set_cons_zero, List.set_cons_succ]
              refine take_of (some 21) (i := 9) (v := ?vq3_9) rfl rfl (by kernel_rfl) (by kernel_rfl) (by kernel_rfl) (fun _ _ _ h => h) (Or.inl ⟨by rfl, ?hyq3_9⟩) (by assumption) ?restq3_9
              case hyq3_9 => (intro w hSw; (try dsimp only at hSw); go_simp; try with_reducible rfl)
              try simp only [Act.put, List.setIfInBounds_toArray, List.set_cons_zero, List.set_cons_succ]
              refine take_of (some 22) (i := 10) (v := ?vq3_10) rfl rfl (by kernel_rfl) (by kernel_rfl) (by kernel_rfl) (fun _ _ _ h => h) (Or.inl ⟨by rfl, ?hyq3_10⟩) (by assumption) ?restq3_10
              case hyq3_10 => (intro w hSw; (try dsimp only at hSw); go_simp; try with_reducible rfl)
              try simp only [Act.put, List.setIfInBounds_toArray, List.set_cons_zero, List.set_cons_succ]
              refine take_of (some 23) (i := 11) (v := ?vq3_11) rfl rfl (by kernel_rfl) (by kernel_rfl) (by kernel_rfl) (fun _ _ _ h => h) (Or.inl ⟨by rfl, ?hyq3_11⟩) (by assumption) ?restq3_11
              case hyq3_11 => (intro w hSw; (try dsimp only at hSw); go_simp; try with_reducible rfl)
              try simp only [Act.put, List.setIfInBounds_toArray, List.set_cons_zero, List.set_cons_succ]
              refine take_of (some 24) (i := 12) (v := ?vq3_12) rfl rfl (by kernel_rfl) (by kernel_rfl) (by kernel_rfl) (fun _ _ _ h => h) (Or.inl ⟨by rfl, ?hyq3_12⟩) (by assumption) ?restq3_12
              case hyq3_12 => (intro w hSw; (try dsimp only at hSw); go_simp; try with_reducible rfl)
              try simp only [Act.put, List.setIfInBounds_toArray, List.set_cons_zero, List.set_cons_succ]
              refine take_of (some 25) (i := 13) (v := ?vq3_13) rfl rfl (by kernel_rfl) (by kernel_rfl) (by kernel_rfl) (fun _ _ _ h => h) (Or.inl ⟨by rfl, ?hyq3_13⟩) (by assumption) ?restq3_13
              case hyq3_13 => (intro w hSw; (try dsimp only at hSw); go_simp; try with_reducible rfl)
              try simp only [Act.put, List.setIfInBounds_toArray, List.set_cons_zero, List.set_cons_succ]
              refine take_of (some 26) (i := 14) (v := ?vq3_14) rfl rfl (by kernel_rfl) (by kernel_rfl) (by kernel_rfl) (fun _ _ _ h => h) (Or.inl ⟨by rfl, ?hyq3_14⟩) (by assumption) ?restq3_14
              case hyq3_14 => (intro w hSw; (try dsimp only at hSw); go_simp; try with_reducible rfl)
              try simp only [Act.put, List.setIfInBounds_toArray, List.set_cons_zero, List.set_cons_succ]
              refine take_of (some 27) (i := 15) (v := ?vq3_15) rfl rfl (by kernel_rfl) (by kernel_rfl) (by kernel_rfl) (fun _ _ _ h => h) (Or.inl ⟨by rfl, ?hyq3_15⟩) (by assumption) ?restq3_15
              case hyq3_15 => (intro w hSw; (try dsimp only at hSw); go_simp; try with_reducible rfl)
              try simp only [Act.put, List.setIfInBounds_toArray, List.set_cons_zero, List.set_cons_succ]
              refine take_of (some 28) (i := 16) (v := ?vq3_16) rfl rfl (by kernel_rfl) (by kernel_rfl) (by kernel_rfl) (fun _ _ _ h => h) (Or.inl ⟨by rfl, ?hyq3_16⟩) (by assumption) ?restq3_16
              case hyq3_16 => (intro w hSw; (try dsimp only at hSw); go_simp; try with_reducible rfl)
              try simp only [Act.put, List.setIfInBounds_toArray, List.set_cons_zero, List.set_cons_succ]
              refine take_of (some 29) (i := 17) (v := ?vq3_17) rfl rfl (by kernel_rfl) (by kernel_rfl) (by kernel_rfl) (fun _ _ _ h => h) (Or.inl ⟨by rfl, ?hyq3_17⟩) (by assumption) ?restq3_17
              case hyq3_17 => (intro w hSw; (try dsimp only at hSw); go_simp; try with_reducible rfl)
              try simp only [Act.put, List.setIfInBounds_toArray, List.set_cons_zero, List.set_cons_succ]
              refine take_of (some 30) (i := 18) (v := ?vq3_18) rfl rfl (by kernel_rfl) (by kernel_rfl) (by kernel_rfl) (fun _ _ _ h => h) (Or.inl ⟨by rfl, ?hyq3_18⟩) (by assumption) ?restq3_18
              case hyq3_18 => (intro w hSw; (try dsimp only at hSw); go_simp; try with_reducible rfl)
              try simp only [Act.put, List.setIfInBounds_toArray, List.set_cons_zero, List.set_cons_succ]
              refine take_of (some 31) (i := 19) (v := ?vq3_19) rfl rfl (by kernel_rfl) (by kernel_rfl) (by kernel_rfl) (fun _ _ _ h => h) (Or.inl ⟨by rfl, ?hyq3_19⟩) (by assumption) ?restq3_19
              case hyq3_19 => (intro w hSw; (try dsimp only at hSw); go_simp; try with_reducible rfl)
              try simp only [Act.put, List.setIfInBounds_toArray, List.set_cons_zero, List.set_cons_succ]
              refine take_of (some 32) (i := 20) (v := ?vq3_20) rfl rfl (by kernel_rfl) (by kernel_rfl) (by kernel_rfl) (fun _ _ _ h => h) (Or.inl ⟨by rfl, ?hyq3_20⟩) (by assumption) ?restq3_20
              case hyq3_20 => (intro w hSw; (try dsimp only at hSw); go_simp; try with_reducible rfl)
              try simp only [Act.put, List.setIfInBounds_toArray, List.set_cons_zero, List.set_cons_succ]
              refine take_of (some 33) (i := 21) (v := ?vq3_21) rfl rfl (by kernel_rfl) (by kernel_rfl) (by kernel_rfl) (fun _ _ _ h => h) (Or.inl ⟨by rfl, ?hyq3_21⟩) (by assumption) ?restq3_21
              case hyq3_21 => (intro w hSw; (try dsimp only at hSw); go_simp; try with_reducible rfl)
              try simp only [Act.put, List.setIfInBounds_toArray, List.set_cons_zero, List.set_cons_succ]
              refine take_of (some 34) (i := 22) (v := ?vq3_22) rfl rfl (by kernel_rfl) (by kernel_rfl) (by kernel_rfl) (fun _ _ _ h => h) (Or.inl ⟨by rfl, ?hyq3_22⟩) (by assumption) ?restq3_22
              case hyq3_22 => (intro w hSw; (try dsimp only at hSw); go_simp; try with_reducible rfl)
              try simp only [Act.put, List.setIfInBounds_toArray, List.set_cons_zero, List.set_cons_succ]
              refine take_of (some 35) (i := 23) (v := ?vq3_23) rfl rfl (by kernel_rfl) (by kernel_rfl) (by kernel_rfl) (fun _ _ _ h => h) (Or.inl ⟨by rfl, ?hyq3_23⟩) (by assumption) ?restq3_23
              case hyq3_23 => (intro w hSw; (try dsimp only at hSw); go_simp; try with_reducible rfl)
              try simp only [Act.put, List.setIfInBounds_toArray, List.set_cons_zero, List.set_cons_succ]
              refine take_of (some 36) (i := 24) (v := ?vq3_24) rfl rfl (by kernel_rfl) (by kernel_rfl) (by kernel_rfl) (fun _ _ _ h => h) (Or.inl ⟨by rfl, ?hyq3_24⟩) (by assumption) ?restq3_24
              case hyq3_24 => (intro w hSw; (try dsimp only at hSw); go_simp; try with_reducible rfl)
              try simp only [Act.put, List.setIfInBounds_toArray, List.set_cons_zero, List.set_cons_succ]
              refine take_of (some 37) (i := 25) (v := ?vq3_25) rfl rfl (by kernel_rfl) (by kernel_rfl) (by kernel_rfl) (fun _ _ _ h => h) (Or.inl ⟨by rfl, ?hyq3_25⟩) (by assumption) ?restq3_25
              case hyq3_25 => (intro w hSw; (try dsimp only at hSw); go_simp; try with_reducible rfl)
              try simp only [Act.put, List.setIfInBounds_toArray, List.set_cons_zero, List.set_cons_succ]
              refine wpAnyH_ready (rs := [26]) (by kernel_rfl) (by simp) ?_
              refine AllReadyH.cons rfl (fun K hK => ?_) AllReadyH.nil
              go_simp
              (first | (go_at_call 79; refine (implIsBox_any x _ hsz).mono ?_; rw [HI.out]; rintro e w' ⟨rfl, hb⟩; obtain ⟨hc1, hf1, hz1⟩ := bl_at hb (k := wr.heap.size) (by first | assumption | (simp; done) | (simp; omega)); obtain ⟨hc2, hf2, hz2⟩ := bl_at hb (k := b) (by first | assumption | (simp; done) | (simp; omega))) | (go_at_call 80; refine (isTaken_any _ _ _ _ (xs.take k) _ _ _ (HRK.out _ (by repeat (first | (with_reducible exact Below.refl _ _) | (with_reducible assumption) | (with_reducible refine bl_alloc ?_ _) | (with_reducible refine bl_drew ?_) | (with_reducible refine bl_drewN ?_ _) | ((with_reducible refine bl_set ?_ ?hb _); (case hb => first | (simp; done) | omega | (simp; omega))) | (with_reducible refine bl_trans ?_ (by assumption))))) (by have := hb.size; simp at this; omega) (by omega)).mono ?_; rw [HTK.out]; rintro e w'' ⟨rfl, hb''⟩; obtain ⟨hc3, hf3, hz3⟩ := bl_at hb'' (k := wr.heap.size) hz1; obtain ⟨hc4, hf4, hz4⟩ := bl_at hb'' (k := b) hz2))
              go_wp2_with fail
              refine hK.out _ _ (by (try dsimp only); go_keep) (fun hHeld => ?_)
              clear hK K
              try simp only [Act.put, List.setIfInBounds_toArray, List.set_cons_zero, List.set_cons_succ]
              refine take_of (some 39) (i := 27) (v := ?vq3_27) rfl rfl (by kernel_rfl) (by kernel_rfl) (by kernel_rfl) (fun _ _ _ h => h) (Or.inl ⟨by rfl, ?hyq3_27⟩) (by assumption) ?restq3_27
              case hyq3_27 => (intro w hSw; (try dsimp only at hSw); go_simp; try with_reducible rfl)
              try simp only [Act.put, List.setIfInBounds_toArray, List.set_cons_zero, List.set_cons_succ]
              refine wpAnyH_done (by kernel_rfl) ?_ _
              refine NoPanic.normal ?_
              have HBn := Lib.hid (show Below w.heap.size w w'' by have hbx := HB.out; exact by repeat (first | (with_reducible exact Below.refl _ _) | (with_reducible assumption) | (with_reducible refine bl_alloc ?_ _) | (with_reducible refine bl_drew ?_) | (with_reducible refine bl_drewN ?_ _) | ((with_reducible refine bl_set ?_ ?hb _); (case hb => first | (simp; done) | omega | (simp; omega))) | (with_reducible refine bl_trans ?_ (by assumption))))
              clear hb hb'' hc1 hf1 hc2 hf2 hc3 hf3 hc4 hf4 e1
              go_wp2
              go_roundw
              case rel => exact ⟨k + 1, by omega, by go_num, HBn.out, caseTo_snoc HA.out HF.out⟩
              case measure => simp [intOf]; omega
            · have HF := Lib.hid (HST.out.trans (congrArg (!·) htk))
              have HTK := Lib.hid htk
              clear htk
              go_wp2_with fail
              refine wp_region_noPanic ?_
              refine wp_region_held_drew (S := (fun w' => w'.cell? ⟨wr.heap.size, 0, none⟩ = some (.string x.code) ∧ w'.cell? ⟨wr.heap.size, 1, none⟩ = some (.int .i64 x.row) ∧ w'.cell? ⟨wr.heap.size, 2, none⟩ = some (.int .i64 x.col) ∧ w'.cell? ⟨wr.heap.size, 3, none⟩ = some (.int .i64 x.cnt) ∧ w'.cell? ⟨b, off + (k - 1) * 4, none⟩ = some (.string y.code))) (by kernel_rfl) (by (try dsimp only); go_keep) (fun hHeld => ?_)
              refine take_of (some 12) (i := 0) (v := ?vq4_0) rfl rfl (by kernel_rfl) (by kernel_rfl) (by kernel_rfl) (fun _ _ _ h => h) (Or.inl ⟨by rfl, ?hyq4_0⟩) (by assumption) ?restq4_0
              case hyq4_0 => (intro w hSw; (try dsimp only at hSw); go_simp; try with_reducible rfl)
              try simp only [Act.put, List.setIfInBounds_toArray, List.set_cons_zero, List.set_cons_succ]
              refine wpAnyH_ready (rs := [1]) (by kernel_rfl) (by simp) ?_
              refine AllReadyH.cons rfl (fun K hK => ?_) AllReadyH.nil
              go_simp
              (first | (go_at_call 79; refine (implIsBox_any x _ hsz).mono ?_; rw [HI.out]; rintro e w' ⟨rfl, hb⟩; obtain ⟨hc1, hf1, hz1⟩ := bl_at hb (k := wr.heap.size) (by first | assumption | (simp; done) | (simp; omega)); obtain ⟨hc2, hf2, hz2⟩ := bl_at hb (k := b) (by first | assumption | (simp; done) | (simp; omega))) | (go_at_call 80; refine (isTaken_any _ _ _ _ (xs.take k) _ _ _ (HRK.out _ (by repeat (first | (with_reducible exact Below.refl _ _) | (with_reducible assumption) | (with_reducible refine bl_alloc ?_ _) | (with_reducible refine bl_drew ?_) | (with_reducible refine bl_drewN ?_ _) | ((with_reducible refine bl_set ?_ ?hb _); (case hb => first | (simp; done) | omega | (simp; omega))) | (with_reducible refine bl_trans ?_ (by assumption))))) (by have := hb.size; simp at this; omega) (by omega)).mono ?_; rw [HTK.out]; rintro e w'' ⟨rfl, hb''⟩; obtain ⟨hc3, hf3, hz3⟩ := bl_at hb'' (k := wr.heap.size) hz1; obtain ⟨hc4, hf4, hz4⟩ := bl_at hb'' (k := b) hz2))
              go_wp2_with fail
              refine hK.out _ _ (by (try dsimp only); go_keep) (fun hHeld => ?_)
              clear hK K
              try simp only [Act.put, List.setIfInBounds_toArray, List.set_cons_zero, List.set_cons_succ]
              refine take_of (some 14) (i := 2) (v := ?vq4_2) rfl rfl (by kernel_rfl) (by kernel_rfl) (by kernel_rfl) (fun _ _ _ h => h) (Or.inl ⟨by rfl, ?hyq4_2⟩) (by assumption) ?restq4_2
              case hyq4_2 => (intro w hSw; (try dsimp only at hSw); go_simp; try with_reducible rfl)
              try simp only [Act.put, List.setIfInBounds_toArray, List.set_cons_zero, List.set_cons_succ]
              refine take_of (some 15) (i := 3) (v := ?vq4_3) rfl rfl (by kernel_rfl) (by kernel_rfl) (by kernel_rfl) (fun _ _ _ h => h) (Or.inl ⟨by rfl, ?hyq4_3⟩) (by assumption) ?restq4_3
              case hyq4_3 => (intro w hSw; (try dsimp only at hSw); go_simp; try with_reducible rfl)
              try simp only [Act.put, List.setIfInBounds_toArray, List.set_cons_zero, List.set_cons_succ]
              refine take_of (some 16) (i := 4) (v := ?vq4_4) rfl rfl (by kernel_rfl) (by kernel_rfl) (by kernel_rfl) (fun _ _ _ h => h) (Or.inl ⟨by rfl, ?hyq4_4⟩) (by assumption) ?restq4_4
              case hyq4_4 => (intro w hSw; (try dsimp only at hSw); go_simp; try with_reducible rfl)
              try simp only [Act.put, List.setIfInBounds_toArray, List.set_cons_zero, List.set_cons_succ]
              refine take_of (some 17) (i := 5) (v := ?vq4_5) rfl rfl (by kernel_rfl) (by kernel_rfl) (by kernel_rfl) (fun _ _ _ h => h) (Or.inl ⟨by rfl, ?hyq4_5⟩) (by assumption) ?restq4_5
              case hyq4_5 => (intro w hSw; (try dsimp only at hSw); go_simp; try with_reducible rfl)
              try simp only [Act.put, List.setIfInBounds_toArray, List.set_cons_zero, List.set_cons_succ]
              refine take_of (some 18) (i := 6) (v := ?vq4_6) rfl rfl (by kernel_rfl) (by kernel_rfl) (by kernel_rfl) (fun _ _ _ h => h) (Or.inl ⟨by rfl, ?hyq4_6⟩) (by assumption) ?restq4_6
              case hyq4_6 => (intro w hSw; (try dsimp only at hSw); go_simp; try with_reducible rfl)
              try simp only [Act.put, List.setIfInBounds_toArray, List.set_cons_zero, List.set_cons_succ]
              refine take_of (some 19) (i := 7) (v := ?vq4_7) rfl rfl (by kernel_rfl) (by kernel_rfl) (by kernel_rfl) (fun _ _ _ h => h) (Or.inl ⟨by rfl, ?hyq4_7⟩) (by assumption) ?restq4_7
              case hyq4_7 => (intro w hSw; (try dsimp only at hSw); go_simp; try with_reducible rfl)
              try simp only [Act.put, List.setIfInBounds_toArray, List.set_cons_zero, List.set_cons_succ]
              refine take_of (some 20) (i := 8) (v := ?vq4_8) rfl rfl (by kernel_rfl) (by kernel_rfl) (by kernel_rfl) (fun _ _ _ h => h) (Or.inl ⟨by rfl, ?hyq4_8⟩) (by assumption) ?restq4_8
              case hyq4_8 => (intro w hSw; (try dsimp only at hSw); go_simp; try with_reducible rfl)
              try simp only [Act.put, List.setIfInBounds_toArray, List.set_cons_zero, List.set_cons_succ]
              refine take_of (some 21) (i := 9) (v := ?vq4_9) rfl rfl (by kernel_rfl) (by kernel_rfl) (by kernel_rfl) (fun _ _ _ h => h) (Or.inl ⟨by rfl, ?hyq4_9⟩) (by assumption) ?restq4_9
              case hyq4_9 => (intro w hSw; (try dsimp only at hSw); go_simp; try with_reducible rfl)
              try simp only [Act.put, List.setIfInBounds_toArray, List.set_cons_zero, List.set_cons_succ]
              refine take_of (some 22) (i := 10) (v := ?vq4_10) rfl rfl (by kernel_rfl) (by kernel_rfl) (by kernel_rfl) (fun _ _ _ h => h) (Or.inl ⟨by rfl, ?hyq4_10⟩) (by assumption) ?restq4_10
              case hyq4_10 => (intro w hSw; (try dsimp only at hSw); go_simp; try with_reducible rfl)
              try simp only [Act.put, List.setIfInBounds_toArray, List.set_cons_zero, List.set_cons_succ]
              refine take_of (some 23) (i := 11) (v := ?vq4_11) rfl rfl (by kernel_rfl) (by kernel_rfl) (by kernel_rfl) (fun _ _ _ h => h) (Or.inl ⟨by rfl, ?hyq4_11⟩) (by assumption) ?restq4_11
              case hyq4_11 => (intro w hSw; (try dsimp only at hSw); go_simp; try with_reducible rfl)
              try simp only [Act.put, List.setIfInBounds_toArray, List.set_cons_zero, List.set_cons_succ]
              refine take_of (some 24) (i := 12) (v := ?vq4_12) rfl rfl (by kernel_rfl) (by kernel_rfl) (by kernel_rfl) (fun _ _ _ h => h) (Or.inl ⟨by rfl, ?hyq4_12⟩) (by assumption) ?restq4_12
              case hyq4_12 => (intro w hSw; (try dsimp only at hSw); go_simp; try with_reducible rfl)
              try simp only [Act.put, List.setIfInBounds_toArray, List.set_cons_zero, List.set_cons_succ]
              refine take_of (some 25) (i := 13) (v := ?vq4_13) rfl rfl (by kernel_rfl) (by kernel_rfl) (by kernel_rfl) (fun _ _ _ h => h) (Or.inl ⟨by rfl, ?hyq4_13⟩) (by assumption) ?restq4_13
              case hyq4_13 => (intro w hSw; (try dsimp only at hSw); go_simp; try with_reducible rfl)
              try simp only [Act.put, List.setIfInBounds_toArray, List.set_cons_zero, List.set_cons_succ]
              refine take_of (some 26) (i := 14) (v := ?vq4_14) rfl rfl (by kernel_rfl) (by kernel_rfl) (by kernel_rfl) (fun _ _ _ h => h) (Or.inl ⟨by rfl, ?hyq4_14⟩) (by assumption) ?restq4_14
              case hyq4_14 => (intro w hSw; (try dsimp only at hSw); go_simp; try with_reducible rfl)
              try simp only [Act.put, List.setIfInBounds_toArray, List.set_cons_zero, List.set_cons_succ]
              refine take_of (some 27) (i := 15) (v := ?vq4_15) rfl rfl (by kernel_rfl) (by kernel_rfl) (by kernel_rfl) (fun _ _ _ h => h) (Or.inl ⟨by rfl, ?hyq4_15⟩) (by assumption) ?restq4_15
              case hyq4_15 => (intro w hSw; (try dsimp only at hSw); go_simp; try with_reducible rfl)
              try simp only [Act.put, List.setIfInBounds_toArray, List.set_cons_zero, List.set_cons_succ]
              refine take_of (some 28) (i := 16) (v := ?vq4_16) rfl rfl (by kernel_rfl) (by kernel_rfl) (by kernel_rfl) (fun _ _ _ h => h) (Or.inl ⟨by rfl, ?hyq4_16⟩) (by assumption) ?restq4_16
              case hyq4_16 => (intro w hSw; (try dsimp only at hSw); go_simp; try with_reducible rfl)
              try simp only [Act.put, List.setIfInBounds_toArray, List.set_cons_zero, List.set_cons_succ]
              refine take_of (some 29) (i := 17) (v := ?vq4_17) rfl rfl (by kernel_rfl) (by kernel_rfl) (by kernel_rfl) (fun _ _ _ h => h) (Or.inl ⟨by rfl, ?hyq4_17⟩) (by assumption) ?restq4_17
              case hyq4_17 => (intro w hSw; (try dsimp only at hSw); go_simp; try with_reducible rfl)
              try simp only [Act.put, List.setIfInBounds_toArray, List.set_cons_zero, List.set_cons_succ]
              refine take_of (some 30) (i := 18) (v := ?vq4_18) rfl rfl (by kernel_rfl) (by kernel_rfl) (by kernel_rfl) (fun _ _ _ h => h) (Or.inl ⟨by rfl, ?hyq4_18⟩) (by assumption) ?restq4_18
              case hyq4_18 => (intro w hSw; (try dsimp only at hSw); go_simp; try with_reducible rfl)
              try simp only [Act.put, List.setIfInBounds_toArray, List.set_cons_zero, List.set_cons_succ]
              refine take_of (some 31) (i := 19) (v := ?vq4_19) rfl rfl (by kernel_rfl) (by kernel_rfl) (by kernel_rfl) (fun _ _ _ h => h) (Or.inl ⟨by rfl, ?hyq4_19⟩) (by assumption) ?restq4_19
              case hyq4_19 => (intro w hSw; (try dsimp only at hSw); go_simp; try with_reducible rfl)
              try simp only [Act.put, List.setIfInBounds_toArray, List.set_cons_zero, List.set_cons_succ]
              refine take_of (some 32) (i := 20) (v := ?vq4_20) rfl rfl (by kernel_rfl) (by kernel_rfl) (by kernel_rfl) (fun _ _ _ h => h) (Or.inl ⟨by rfl, ?hyq4_20⟩) (by assumption) ?restq4_20
              case hyq4_20 => (intro w hSw; (try dsimp only at hSw); go_simp; try with_reducible rfl)
              try simp only [Act.put, List.setIfInBounds_toArray, List.set_cons_zero, List.set_cons_succ]
              refine take_of (some 33) (i := 21) (v := ?vq4_21) rfl rfl (by kernel_rfl) (by kernel_rfl) (by kernel_rfl) (fun _ _ _ h => h) (Or.inl ⟨by rfl, ?hyq4_21⟩) (by assumption) ?restq4_21
              case hyq4_21 => (intro w hSw; (try dsimp only at hSw); go_simp; try with_reducible rfl)
              try simp only [Act.put, List.setIfInBounds_toArray, List.set_cons_zero, List.set_cons_succ]
              refine take_of (some 34) (i := 22) (v := ?vq4_22) rfl rfl (by kernel_rfl) (by kernel_rfl) (by kernel_rfl) (fun _ _ _ h => h) (Or.inl ⟨by rfl, ?hyq4_22⟩) (by assumption) ?restq4_22
              case hyq4_22 => (intro w hSw; (try dsimp only at hSw); go_simp; try with_reducible rfl)
              try simp only [Act.put, List.setIfInBounds_toArray, List.set_cons_zero, List.set_cons_succ]
              refine take_of (some 35) (i := 23) (v := ?vq4_23) rfl rfl (by kernel_rfl) (by kernel_rfl) (by kernel_rfl) (fun _ _ _ h => h) (Or.inl ⟨by rfl, ?hyq4_23⟩) (by assumption) ?restq4_23
              case hyq4_23 => (intro w hSw; (try dsimp only at hSw); go_simp; try with_reducible rfl)
              try simp only [Act.put, List.setIfInBounds_toArray, List.set_cons_zero, List.set_cons_succ]
              refine take_of (some 36) (i := 24) (v := ?vq4_24) rfl rfl (by kernel_rfl) (by kernel_rfl) (by kernel_rfl) (fun _ _ _ h => h) (Or.inl ⟨by rfl, ?hyq4_24⟩) (by assumption) ?restq4_24
              case hyq4_24 => (intro w hSw; (try dsimp only at hSw); go_simp; try with_reducible rfl)
              try simp only [Act.put, List.setIfInBounds_toArray, List.set_cons_zero, List.set_cons_succ]
              refine take_of (some 37) (i := 25) (v := ?vq4_25) rfl rfl (by kernel_rfl) (by kernel_rfl) (by kernel_rfl) (fun _ _ _ h => h) (Or.inl ⟨by rfl, ?hyq4_25⟩) (by assumption) ?restq4_25
              case hyq4_25 => (intro w hSw; (try dsimp only at hSw); go_simp; try with_reducible rfl)
              try simp only [Act.put, List.setIfInBounds_toArray, List.set_cons_zero, List.set_cons_succ]
              refine wpAnyH_ready (rs := [26]) (by kernel_rfl) (by simp) ?_
              refine AllReadyH.cons rfl (fun K hK => ?_) AllReadyH.nil
              go_simp
              (first | (go_at_call 79; refine (implIsBox_any x _ hsz).mono ?_; rw [HI.out]; rintro e w' ⟨rfl, hb⟩; obtain ⟨hc1, hf1, hz1⟩ := bl_at hb (k := wr.heap.size) (by first | assumption | (simp; done) | (simp; omega)); obtain ⟨hc2, hf2, hz2⟩ := bl_at hb (k := b) (by first | assumption | (simp; done) | (simp; omega))) | (go_at_call 80; refine (isTaken_any _ _ _ _ (xs.take k) _ _ _ (HRK.out _ (by repeat (first | (with_reducible exact Below.refl _ _) | (with_reducible assumption) | (with_reducible refine bl_alloc ?_ _) | (with_reducible refine bl_drew ?_) | (with_reducible refine bl_drewN ?_ _) | ((with_reducible refine bl_set ?_ ?hb _); (case hb => first | (simp; done) | omega | (simp; omega))) | (with_reducible refine bl_trans ?_ (by assumption))))) (by have := hb.size; simp at this; omega) (by omega)).mono ?_; rw [HTK.out]; rintro e w'' ⟨rfl, hb''⟩; obtain ⟨hc3, hf3, hz3⟩ := bl_at hb'' (k := wr.heap.size) hz1; obtain ⟨hc4, hf4, hz4⟩ := bl_at hb'' (k := b) hz2))
              go_wp2_with fail
              refine hK.out _ _ (by (try dsimp only); go_keep) (fun hHeld => ?_)
              clear hK K
              try simp only [Act.put, List.setIfInBounds_toArray, List.set_cons_zero, List.set_cons_succ]
              refine take_of (some 39) (i := 27) (v := ?vq4_27) rfl rfl (by kernel_rfl) (by kernel_rfl) (by kernel_rfl) (fun _ _ _ h => h) (Or.inl ⟨by rfl, ?hyq4_27⟩) (by assumption) ?restq4_27
              case hyq4_27 => (intro w hSw; (try dsimp only at hSw); go_simp; try with_reducible rfl)
              try simp only [Act.put, List.setIfInBounds_toArray, List.set_cons_zero, List.set_cons_succ]
              refine wpAnyH_done (by kernel_rfl) ?_ _
              refine NoPanic.normal ?_
              have HBn := Lib.hid (show Below w.heap.size w w'' by have hbx := HB.out; exact by repeat (first | (with_reducible exact Below.refl _ _) | (with_reducible assumption) | (with_reducible refine bl_alloc ?_ _) | (with_reducible refine bl_drew ?_) | (with_reducible refine bl_drewN ?_ _) | ((with_reducible refine bl_set ?_ ?hb _); (case hb => first | (simp; done) | omega | (simp; omega))) | (with_reducible refine bl_trans ?_ (by assumption))))
              clear hb hb'' hc1 hf1 hc2 hf2 hc3 hf3 hc4 hf4 e1
              go_wp2
              go_ret
              exact ⟨ret_bool (case_no (by omega) HF.out).symm, HBn.out⟩
        · have hkd : decide ((0 : Int) < (k : Int)) = false := by simp; omega
          have HF := Lib.hid (show caseAt xs k = true by obtain rfl : k = 0 := (by omega); exact caseAt_zero HX.out HI.out)
          have HTK := Lib.hid (show takenB (xs.take k) x.row x.col = false by obtain rfl : k = 0 := (by omega); rfl)
          go_wp2_with fail
          refine wp_region_noPanic ?_
          refine wp_region_held_drew (S := (fun w' => w'.cell? ⟨wr.heap.size, 0, none⟩ = some (.string x.code) ∧ w'.cell? ⟨wr.heap.size, 1, none⟩ = some (.int .i64 x.row) ∧ w'.cell? ⟨wr.heap.size, 2, none⟩ = some (.int .i64 x.col) ∧ w'.cell? ⟨wr.heap.size, 3, none⟩ = some (.int .i64 x.cnt))) (by kernel_rfl) (by (try dsimp only); go_keep) (fun hHeld => ?_)
          refine take_of (some 12) (i := 0) (v := ?vq5_0) rfl rfl (by kernel_rfl) (by kernel_rfl) (by kernel_rfl) (fun _ _ _ h => h) (Or.inl ⟨by rfl, ?hyq5_0⟩) (by assumption) ?restq5_0
          case hyq5_0 => (intro w hSw; (try dsimp only at hSw); go_simp; try with_reducible rfl)
          try simp only [Act.put, List.setIfInBounds_toArray, List.set_cons_zero, List.set_cons_succ]
          refine wpAnyH_ready (rs := [1]) (by kernel_rfl) (by simp) ?_
          refine AllReadyH.cons rfl (fun K hK => ?_) AllReadyH.nil
          go_simp
          (first | (go_at_call 79; refine (implIsBox_any x _ hsz).mono ?_; rw [HI.out]; rintro e w' ⟨rfl, hb⟩; obtain ⟨hc1, hf1, hz1⟩ := bl_at hb (k := wr.heap.size) (by first | assumption | (simp; done) | (simp; omega)); obtain ⟨hc2, hf2, hz2⟩ := bl_at hb (k := b) (by first | assumption | (simp; done) | (simp; omega))) | (go_at_call 80; refine (isTaken_any _ _ _ _ (xs.take k) _ _ _ (HRK.out _ (by repeat (first | (with_reducible exact Below.refl _ _) | (with_reducible assumption) | (with_reducible refine bl_alloc ?_ _) | (with_reducible refine bl_drew ?_) | (with_reducible refine bl_drewN ?_ _) | ((with_reducible refine bl_set ?_ ?hb _); (case hb => first | (simp; done) | omega | (simp; omega))) | (with_reducible refine bl_trans ?_ (by assumption))))) (by have := hb.size; simp at this; omega) (by omega)).mono ?_; rw [HTK.out]; rintro e w'' ⟨rfl, hb''⟩; obtain ⟨hc3, hf3, hz3⟩ := bl_at hb'' (k := wr.heap.size) hz1; obtain ⟨hc4, hf4, hz4⟩ := bl_at hb'' (k := b) hz2))
          go_wp2_with fail
          refine hK.out _ _ (by (try dsimp only); go_keep) (fun hHeld => ?_)
          clear hK K
          try simp only [Act.put, List.setIfInBounds_toArray, List.set_cons_zero, List.set_cons_succ]
          refine take_of (some 14) (i := 2) (v := ?vq5_2) rfl rfl (by kernel_rfl) (by kernel_rfl) (by kernel_rfl) (fun _ _ _ h => h) (Or.inl ⟨by rfl, ?hyq5_2⟩) (by assumption) ?restq5_2
          case hyq5_2 => (intro w hSw; (try dsimp only at hSw); go_simp; try with_reducible rfl)
          try simp only [Act.put, List.setIfInBounds_toArray, List.set_cons_zero, List.set_cons_succ]
          refine take_of (some 15) (i := 3) (v := ?vq5_3) rfl rfl (by kernel_rfl) (by kernel_rfl) (by kernel_rfl) (fun _ _ _ h => h) (Or.inl ⟨by rfl, ?hyq5_3⟩) (by assumption) ?restq5_3
          case hyq5_3 => (intro w hSw; (try dsimp only at hSw); go_simp; try with_reducible rfl)
          try simp only [Act.put, List.setIfInBounds_toArray, List.set_cons_zero, List.set_cons_succ]
          refine take_of (some 16) (i := 4) (v := ?vq5_4) rfl rfl (by kernel_rfl) (by kernel_rfl) (by kernel_rfl) (fun _ _ _ h => h) (Or.inl ⟨by rfl, ?hyq5_4⟩) (by assumption) ?restq5_4
          case hyq5_4 => (intro w hSw; (try dsimp only at hSw); go_simp; try with_reducible rfl)
          try simp only [Act.put, List.setIfInBounds_toArray, List.set_cons_zero, List.set_cons_succ]
          refine take_of (some 17) (i := 5) (v := ?vq5_5) rfl rfl (by kernel_rfl) (by kernel_rfl) (by kernel_rfl) (fun _ _ _ h => h) (Or.inl ⟨by rfl, ?hyq5_5⟩) (by assumption) ?restq5_5
          case hyq5_5 => (intro w hSw; (try dsimp only at hSw); go_simp; try with_reducible rfl)
          try simp only [Act.put, List.setIfInBounds_toArray, List.set_cons_zero, List.set_cons_succ]
          refine take_of (some 18) (i := 6) (v := ?vq5_6) rfl rfl (by kernel_rfl) (by kernel_rfl) (by kernel_rfl) (fun _ _ _ h => h) (Or.inl ⟨by rfl, ?hyq5_6⟩) (by assumption) ?restq5_6
          case hyq5_6 => (intro w hSw; (try dsimp only at hSw); go_simp; try with_reducible rfl)
          try simp only [Act.put, List.setIfInBounds_toArray, List.set_cons_zero, List.set_cons_succ]
          refine take_of (some 19) (i := 7) (v := undef) rfl rfl (by kernel_rfl) (by kernel_rfl) (by kernel_rfl) (fun _ _ _ h => h) (Or.inr ⟨by rfl, rfl⟩) (by assumption) ?_
          try simp only [Act.put, List.setIfInBounds_toArray, List.set_cons_zero, List.set_cons_succ]
          refine take_of (some 20) (i := 8) (v := undef) rfl rfl (by kernel_rfl) (by kernel_rfl) (by kernel_rfl) (fun _ _ _ h => h) (Or.inr ⟨by rfl, rfl⟩) (by assumption) ?_
          try simp only [Act.put, List.setIfInBounds_toArray, List.set_cons_zero, List.set_cons_succ]
          refine take_of (some 21) (i := 9) (v := undef) rfl rfl (by kernel_rfl) (by kernel_rfl) (by kernel_rfl) (fun _ _ _ h => h) (Or.inr ⟨by rfl, rfl⟩) (by assumption) ?_
          try simp only [Act.put, List.setIfInBounds_toArray, List.set_cons_zero, List.set_cons_succ]
          refine take_of (some 22) (i := 10) (v := undef) rfl rfl (by kernel_rfl) (by kernel_rfl) (by kernel_rfl) (fun _ _ _ h => h) (Or.inr ⟨by rfl, rfl⟩) (by assumption) ?_
          try simp only [Act.put, List.setIfInBounds_toArray, List.set_cons_zero, List.set_cons_succ]
          refine take_of (some 23) (i := 11) (v := undef) rfl rfl (by kernel_rfl) (by kernel_rfl) (by kernel_rfl) (fun _ _ _ h => h) (Or.inr ⟨by rfl, rfl⟩) (by assumption) ?_
          try simp only [Act.put, List.setIfInBounds_toArray, List.set_cons_zero, List.set_cons_succ]
          refine take_of (some 24) (i := 12) (v := undef) rfl rfl (by kernel_rfl) (by kernel_rfl) (by kernel_rfl) (fun _ _ _ h => h) (Or.inr ⟨by rfl, rfl⟩) (by assumption) ?_
          try simp only [Act.put, List.setIfInBounds_toArray, List.set_cons_zero, List.set_cons_succ]
          refine take_of (some 25) (i := 13) (v := undef) rfl rfl (by kernel_rfl) (by kernel_rfl) (by kernel_rfl) (fun _ _ _ h => h) (Or.inr ⟨by rfl, rfl⟩) (by assumption) ?_
          try simp only [Act.put, List.setIfInBounds_toArray, List.set_cons_zero, List.set_cons_succ]
          refine take_of (some 26) (i := 14) (v := undef) rfl rfl (by kernel_rfl) (by kernel_rfl) (by kernel_rfl) (fun _ _ _ h => h) (Or.inr ⟨by rfl, rfl⟩) (by assumption) ?_
          try simp only [Act.put, List.setIfInBounds_toArray, List.set_cons_zero, List.set_cons_succ]
          refine take_of (some 27) (i := 15) (v := undef) rfl rfl (by kernel_rfl) (by kernel_rfl) (by kernel_rfl) (fun _ _ _ h => h) (Or.inr ⟨by rfl, rfl⟩) (by assumption) ?_
          try simp only [Act.put, List.setIfInBounds_toArray, List.set_cons_zero, List.set_cons_succ]
          refine take_of (some 28) (i := 16) (v := ?vq5_16) rfl rfl (by kernel_rfl) (by kernel_rfl) (by kernel_rfl) (fun _ _ _ h => h) (Or.inl ⟨by rfl, ?hyq5_16⟩) (by assumption) ?restq5_16
          case hyq5_16 => (intro w hSw; (try dsimp only at hSw); go_simp; try with_reducible rfl)
          try simp only [Act.put, List.setIfInBounds_toArray, List.set_cons_zero, List.set_cons_succ]
          refine take_of (some 29) (i := 17) (v := ?vq5_17) rfl rfl (by kernel_rfl) (by kernel_rfl) (by kernel_rfl) (fun _ _ _ h => h) (Or.inl ⟨by rfl, ?hyq5_17⟩) (by assumption) ?restq5_17
          case hyq5_17 => (intro w hSw; (try dsimp only at hSw); go_simp; try with_reducible rfl)
          try simp only [Act.put, List.setIfInBounds_toArray, List.set_cons_zero, List.set_cons_succ]
          refine take_of (some 30) (i := 18) (v := ?vq5_18) rfl rfl (by kernel_rfl) (by kernel_rfl) (by kernel_rfl) (fun _ _ _ h => h) (Or.inl ⟨by rfl, ?hyq5_18⟩) (by assumption) ?restq5_18
          case hyq5_18 => (intro w hSw; (try dsimp only at hSw); go_simp; try with_reducible rfl)
          try simp only [Act.put, List.setIfInBounds_toArray, List.set_cons_zero, List.set_cons_succ]
          refine take_of (some 31) (i := 19) (v := ?vq5_19) rfl rfl (by kernel_rfl) (by kernel_rfl) (by kernel_rfl) (fun _ _ _ h => h) (Or.inl ⟨by rfl, ?hyq5_19⟩) (by assumption) ?restq5_19
          case hyq5_19 => (intro w hSw; (try dsimp only at hSw); go_simp; try with_reducible rfl)
          try simp only [Act.put, List.setIfInBounds_toArray, List.set_cons_zero, List.set_cons_succ]
          refine take_of (some 32) (i := 20) (v := ?vq5_20) rfl rfl (by kernel_rfl) (by kernel_rfl) (by kernel_rfl) (fun _ _ _ h => h) (Or.inl ⟨by rfl, ?hyq5_20⟩) (by assumption) ?restq5_20
          case hyq5_20 => (intro w hSw; (try dsimp only at hSw); go_simp; try with_reducible rfl)
          try simp only [Act.put, List.setIfInBounds_toArray, List.set_cons_zero, List.set_cons_succ]
          refine take_of (some 33) (i := 21) (v := ?vq5_21) rfl rfl (by kernel_rfl) (by kernel_rfl) (by kernel_rfl) (fun _ _ _ h => h) (Or.inl ⟨by rfl, ?hyq5_21⟩) (by assumption) ?restq5_21
          case hyq5_21 => (intro w hSw; (try dsimp only at hSw); go_simp; try with_reducible rfl)
          try simp only [Act.put, List.setIfInBounds_toArray, List.set_cons_zero, List.set_cons_succ]
          refine take_of (some 34) (i := 22) (v := ?vq5_22) rfl rfl (by kernel_rfl) (by kernel_rfl) (by kernel_rfl) (fun _ _ _ h => h) (Or.inl ⟨by rfl, ?hyq5_22⟩) (by assumption) ?restq5_22
          case hyq5_22 => (intro w hSw; (try dsimp only at hSw); go_simp; try with_reducible rfl)
          try simp only [Act.put, List.setIfInBounds_toArray, List.set_cons_zero, List.set_cons_succ]
          refine take_of (some 35) (i := 23) (v := ?vq5_23) rfl rfl (by kernel_rfl) (by kernel_rfl) (by kernel_rfl) (fun _ _ _ h => h) (Or.inl ⟨by rfl, ?hyq5_23⟩) (by assumption) ?restq5_23
          case hyq5_23 => (intro w hSw; (try dsimp only at hSw); go_simp; try with_reducible rfl)
          try simp only [Act.put, List.setIfInBounds_toArray, List.set_cons_zero, List.set_cons_succ]
          refine take_of (some 36) (i := 24) (v := ?vq5_24) rfl rfl (by kernel_rfl) (by kernel_rfl) (by kernel_rfl) (fun _ _ _ h => h) (Or.inl ⟨by rfl, ?hyq5_24⟩) (by assumption) ?restq5_24
          case hyq5_24 => (intro w hSw; (try dsimp only at hSw); go_simp; try with_reducible rfl)
          try simp only [Act.put, List.setIfInBounds_toArray, List.set_cons_zero, List.set_cons_succ]
          refine take_of (some 37) (i := 25) (v := ?vq5_25) rfl rfl (by kernel_rfl) (by kernel_rfl) (by kernel_rfl) (fun _ _ _ h => h) (Or.inl ⟨by rfl, ?hyq5_25⟩) (by assumption) ?restq5_25
          case hyq5_25 => (intro w hSw; (try dsimp only at hSw); go_simp; try with_reducible rfl)
          try simp only [Act.put, List.setIfInBounds_toArray, List.set_cons_zero, List.set_cons_succ]
          refine wpAnyH_ready (rs := [26]) (by kernel_rfl) (by simp) ?_
          refine AllReadyH.cons rfl (fun K hK => ?_) AllReadyH.nil
          go_simp
          (first | (go_at_call 79; refine (implIsBox_any x _ hsz).mono ?_; rw [HI.out]; rintro e w' ⟨rfl, hb⟩; obtain ⟨hc1, hf1, hz1⟩ := bl_at hb (k := wr.heap.size) (by first | assumption | (simp; done) | (simp; omega)); obtain ⟨hc2, hf2, hz2⟩ := bl_at hb (k := b) (by first | assumption | (simp; done) | (simp; omega))) | (go_at_call 80; refine (isTaken_any _ _ _ _ (xs.take k) _ _ _ (HRK.out _ (by repeat (first | (with_reducible exact Below.refl _ _) | (with_reducible assumption) | (with_reducible refine bl_alloc ?_ _) | (with_reducible refine bl_drew ?_) | (with_reducible refine bl_drewN ?_ _) | ((with_reducible refine bl_set ?_ ?hb _); (case hb => first | (simp; done) | omega | (simp; omega))) | (with_reducible refine bl_trans ?_ (by assumption))))) (by have := hb.size; simp at this; omega) (by omega)).mono ?_; rw [HTK.out]; rintro e w'' ⟨rfl, hb''⟩; obtain ⟨hc3, hf3, hz3⟩ := bl_at hb'' (k := wr.heap.size) hz1; obtain ⟨hc4, hf4, hz4⟩ := bl_at hb'' (k := b) hz2))
          go_wp2_with fail
          refine hK.out _ _ (by (try dsimp only); go_keep) (fun hHeld => ?_)
          clear hK K
          try simp only [Act.put, List.setIfInBounds_toArray, List.set_cons_zero, List.set_cons_succ]
          refine take_of (some 39) (i := 27) (v := ?vq5_27) rfl rfl (by kernel_rfl) (by kernel_rfl) (by kernel_rfl) (fun _ _ _ h => h) (Or.inl ⟨by rfl, ?hyq5_27⟩) (by assumption) ?restq5_27
          case hyq5_27 => (intro w hSw; (try dsimp only at hSw); go_simp; try with_reducible rfl)
          try simp only [Act.put, List.setIfInBounds_toArray, List.set_cons_zero, List.set_cons_succ]
          refine wpAnyH_done (by kernel_rfl) ?_ _
          refine NoPanic.normal ?_
          have HBn := Lib.hid (show Below w.heap.size w w'' by have hbx := HB.out; exact by repeat (first | (with_reducible exact Below.refl _ _) | (with_reducible assumption) | (with_reducible refine bl_alloc ?_ _) | (with_reducible refine bl_drew ?_) | (with_reducible refine bl_drewN ?_ _) | ((with_reducible refine bl_set ?_ ?hb _); (case hb => first | (simp; done) | omega | (simp; omega))) | (with_reducible refine bl_trans ?_ (by assumption))))
          clear hb hb'' hc1 hf1 hc2 hf2 hc3 hf3 hc4 hf4
          go_wp2
          go_roundw
          case rel => exact ⟨k + 1, by omega, by go_num, HBn.out, caseTo_snoc HA.out HF.out⟩
          case measure => simp [intOf]; omega
    · obtain rfl : k = n := by omega
      have HE := Lib.hid (case_end (by omega) HA.out)
      go_wp2_with (go_at_call 74; refine (within_any _ _ _ _).mono ?_; rintro e w' ⟨rfl, rfl⟩)
      go_ret
      exact ⟨ret_bool (by rw [HE.out, hl]), hb⟩
end Go.Proofs.YtgfobchpkjpiiaaDoor
