/-
  Cases: the reference's contract; the law's walk of IsCase.
-/
import Derived.Test.YtgfobchpkjpiiaaDoorCa2
namespace Go.Proofs.YtgfobchpkjpiiaaDoor
open Go.RowKit
set_option linter.unusedVariables false
attribute [local go_sem ↓] Go.wp_at_zero Go.wp_at_succ

/-- the inner loop: is the place of x among the first k? -/
theorem tk_no {xs : List Box} {k : Nat} {r c : Int} (h : ((xs.take k).take k).all (fun y => !atB r c y) = true) : takenB (xs.take k) r c = false := by
  unfold takenB
  exact any_none (k := k) (by simp; omega) h
set_option maxHeartbeats 2000000 in
theorem caGood_any (A : Option Addr) (n cp B : Nat) (xs : List Box) (w : World) (hr : Rd cBox 4 w B A n xs) (hB : B ≤ w.heap.size) (hn : n ≤ 1048576) (hok : ∀ x ∈ xs, okBox x) (hcap : n ≤ cp) :
    Calls Tryd.prog 53 #[.slice A n cp] w fun e w' => e = .returned (.bool (caseB xs)) ∧ Below w.heap.size w w' := by
  have HOK := Lib.hid hok
  clear hok
  have hl := hr.1
  go_enter Tryd.func53, Tryd.ntmps53
  go_wp2
  go_loopw [9] (fun i wr => ∃ k : Nat, k ≤ n ∧ i = .int .i64 k ∧ Below w.heap.size w wr ∧ Hid (caseTo xs k = true)) (fun i _ => n - (intOf i).toNat)
  case atStart => exact ⟨0, Nat.zero_le _, rfl, Below.refl _ _, rfl⟩
  case round =>
    obtain ⟨k, hk, rfl, hb, HA⟩ := hrel
    by_cases hlt : k < n
    · obtain ⟨b, off, rfl, hbB, hcell⟩ := (hr.below (hb.mono hB)).2 (by omega)
      obtain ⟨x, hx⟩ : ∃ x, xs[k]? = some x := ⟨xs[k]'(by omega), List.getElem?_eq_getElem _⟩
      have c0 : wr.cell? ⟨b, off + k * 4, none⟩ = some (.string x.code) := by simpa [cBox] using hcell k x hx 0 (by omega)
      have c1 : wr.cell? ⟨b, off + k * 4 + 1, none⟩ = some (.int .i64 x.row) := by simpa [cBox] using hcell k x hx 1 (by omega)
      have c2 : wr.cell? ⟨b, off + k * 4 + 2, none⟩ = some (.int .i64 x.col) := by simpa [cBox] using hcell k x hx 2 (by omega)
      have c3 : wr.cell? ⟨b, off + k * 4 + 3, none⟩ = some (.int .i64 x.cnt) := by simpa [cBox] using hcell k x hx 3 (by omega)
      have hsz := (HOK.out x (List.mem_of_getElem? hx)).1
      have hbw : b < wr.heap.size := by have := hb.size; omega
      have HX := Lib.hid hx
      have HB := Lib.hid hb
      have HC := Lib.hid hcell
      have HRK := Lib.hid (fun (W : World) (h : Below wr.heap.size wr W) => (rd_takeG (hr.below ((hb.mono hB).trans (h.mono (by have := hb.size; omega)))) hk))
      have hBw : B ≤ wr.heap.size := by have := hb.size; omega
      clear hx hb hcell
      have hne : b ≠ wr.heap.size := by omega
      have hne' : wr.heap.size ≠ b := by omega
      have k0 : (0 : Int) ≤ (k : Int) := by omega
      have k1 : (k : Int) ≤ (cp : Int) := by omega
      rcases hin : boxB x with _ | _
      · have HI := Lib.hid hin
        go_wp2_with fail
        refine wp_region_noPanic ?_
        refine wp_region_held_drew (S := (fun w' => w'.cell? ⟨wr.heap.size, 0, none⟩ = some (.string x.code) ∧ w'.cell? ⟨wr.heap.size, 1, none⟩ = some (.int .i64 x.row) ∧ w'.cell? ⟨wr.heap.size, 2, none⟩ = some (.int .i64 x.col) ∧ w'.cell? ⟨wr.heap.size, 3, none⟩ = some (.int .i64 x.cnt))) (by kernel_rfl) (by (try dsimp only); go_keep) (fun hHeld => ?_)
        refine take_of (some 14) (i := 0) (v := ?vq6_0) rfl rfl (by kernel_rfl) (by kernel_rfl) (by kernel_rfl) (fun _ _ _ h => h) (Or.inl ⟨by rfl, ?hyq6_0⟩) (by assumption) ?restq6_0
        case hyq6_0 => (intro w hSw; (try dsimp only at hSw); go_simp; try with_reducible rfl)
        try simp only [Act.put, List.setIfInBounds_toArray, List.set_cons_zero, List.set_cons_succ]
        refine wpAnyH_ready (rs := [1]) (by kernel_rfl) (by simp) ?_
        refine AllReadyH.cons rfl (fun K hK => ?_) AllReadyH.nil
        go_simp
        (go_at_call 78; refine (caBox_any x _ hsz).mono ?_; rw [HI.out]; rintro e w' ⟨rfl, hb⟩; obtain ⟨hc1, hf1, hz1⟩ := bl_at hb (k := wr.heap.size) (by first | assumption | (simp; done) | (simp; omega)); obtain ⟨hc2, hf2, hz2⟩ := bl_at hb (k := b) (by first | assumption | (simp; done) | (simp; omega)))
        go_wp2_with fail
        refine hK.out _ _ (by (try dsimp only); go_keep) (fun hHeld => ?_)
        clear hK K
        try simp only [Act.put, List.setIfInBounds_toArray, List.set_cons_zero, List.set_cons_succ]
        refine take_of (some 16) (i := 2) (v := ?vq6_2) rfl rfl (by kernel_rfl) (by kernel_rfl) (by kernel_rfl) (fun _ _ _ h => h) (Or.inl ⟨by rfl, ?hyq6_2⟩) (by assumption) ?restq6_2
        case hyq6_2 => (intro w hSw; (try dsimp only at hSw); go_simp; try with_reducible rfl)
        try simp only [Act.put, List.setIfInBounds_toArray, List.set_cons_zero, List.set_cons_succ]
        refine take_of (some 17) (i := 3) (v := ?vq6_3) rfl rfl (by kernel_rfl) (by kernel_rfl) (by kernel_rfl) (fun _ _ _ h => h) (Or.inl ⟨by rfl, ?hyq6_3⟩) (by assumption) ?restq6_3
        case hyq6_3 => (intro w hSw; (try dsimp only at hSw); go_simp; try with_reducible rfl)
        try simp only [Act.put, List.setIfInBounds_toArray, List.set_cons_zero, List.set_cons_succ]
        refine take_of (some 18) (i := 4) (v := undef) rfl rfl (by kernel_rfl) (by kernel_rfl) (by kernel_rfl) (fun _ _ _ h => h) (Or.inr ⟨by rfl, rfl⟩) (by assumption) ?_
        try simp only [Act.put, List.setIfInBounds_toArray, List.set_cons_zero, List.set_cons_succ]
        refine take_of (some 19) (i := 5) (v := undef) rfl rfl (by kernel_rfl) (by kernel_rfl) (by kernel_rfl) (fun _ _ _ h => h) (Or.inr ⟨by rfl, rfl⟩) (by assumption) ?_
        try simp only [Act.put, List.setIfInBounds_toArray, List.set_cons_zero, List.set_cons_succ]
        refine take_of (some 20) (i := 6) (v := undef) rfl rfl (by kernel_rfl) (by kernel_rfl) (by kernel_rfl) (fun _ _ _ h => h) (Or.inr ⟨by rfl, rfl⟩) (by assumption) ?_
        try simp only [Act.put, List.setIfInBounds_toArray, List.set_cons_zero, List.set_cons_succ]
        refine take_of (some 21) (i := 7) (v := undef) rfl rfl (by kernel_rfl) (by kernel_rfl) (by kernel_rfl) (fun _ _ _ h => h) (Or.inr ⟨by rfl, rfl⟩) (by assumption) ?_
        try simp only [Act.put, List.setIfInBounds_toArray, List.set_cons_zero, List.set_cons_succ]
        refine take_of (some 22) (i := 8) (v := undef) rfl rfl (by kernel_rfl) (by kernel_rfl) (by kernel_rfl) (fun _ _ _ h => h) (Or.inr ⟨by rfl, rfl⟩) (by assumption) ?_
        try simp only [Act.put, List.setIfInBounds_toArray, List.set_cons_zero, List.set_cons_succ]
        refine take_of (some 23) (i := 9) (v := undef) rfl rfl (by kernel_rfl) (by kernel_rfl) (by kernel_rfl) (fun _ _ _ h => h) (Or.inr ⟨by rfl, rfl⟩) (by assumption) ?_
        try simp only [Act.put, List.setIfInBounds_toArray, List.set_cons_zero, List.set_cons_succ]
        refine take_of (some 24) (i := 10) (v := undef) rfl rfl (by kernel_rfl) (by kernel_rfl) (by kernel_rfl) (fun _ _ _ h => h) (Or.inr ⟨by rfl, rfl⟩) (by assumption) ?_
        try simp only [Act.put, List.setIfInBounds_toArray, List.set_cons_zero, List.set_cons_succ]
        refine take_of (some 25) (i := 11) (v := undef) rfl rfl (by kernel_rfl) (by kernel_rfl) (by kernel_rfl) (fun _ _ _ h => h) (Or.inr ⟨by rfl, rfl⟩) (by assumption) ?_
        try simp only [Act.put, List.setIfInBounds_toArray, List.set_cons_zero, List.set_cons_succ]
        refine take_of (some 26) (i := 12) (v := undef) rfl rfl (by kernel_rfl) (by kernel_rfl) (by kernel_rfl) (fun _ _ _ h => h) (Or.inr ⟨by rfl, rfl⟩) (by assumption) ?_
        try simp only [Act.put, List.setIfInBounds_toArray, List.set_cons_zero, List.set_cons_succ]
        refine take_of (some 27) (i := 13) (v := undef) rfl rfl (by kernel_rfl) (by kernel_rfl) (by kernel_rfl) (fun _ _ _ h => h) (Or.inr ⟨by rfl, rfl⟩) (by assumption) ?_
        try simp only [Act.put, List.setIfInBounds_toArray, List.set_cons_zero, List.set_cons_succ]
        refine take_of (some 28) (i := 14) (v := undef) rfl rfl (by kernel_rfl) (by kernel_rfl) (by kernel_rfl) (fun _ _ _ h => h) (Or.inr ⟨by rfl, rfl⟩) (by assumption) ?_
        try simp only [Act.put, List.setIfInBounds_toArray, List.set_cons_zero, List.set_cons_succ]
        refine take_of (some 29) (i := 15) (v := undef) rfl rfl (by kernel_rfl) (by kernel_rfl) (by kernel_rfl) (fun _ _ _ h => h) (Or.inr ⟨by rfl, rfl⟩) (by assumption) ?_
        try simp only [Act.put, List.setIfInBounds_toArray, List.set_cons_zero, List.set_cons_succ]
        refine take_of (some 30) (i := 16) (v := undef) rfl rfl (by kernel_rfl) (by kernel_rfl) (by kernel_rfl) (fun _ _ _ h => h) (Or.inr ⟨by rfl, rfl⟩) (by assumption) ?_
        try simp only [Act.put, List.setIfInBounds_toArray, List.set_cons_zero, List.set_cons_succ]
        refine take_of (some 31) (i := 17) (v := ?vq6_17) rfl rfl (by kernel_rfl) (by kernel_rfl) (by kernel_rfl) (fun _ _ _ h => h) (Or.inl ⟨by rfl, ?hyq6_17⟩) (by assumption) ?restq6_17
        case hyq6_17 => (intro w hSw; (try dsimp only at hSw); go_simp; try with_reducible rfl)
        try simp only [Act.put, List.setIfInBounds_toArray, List.set_cons_zero, List.set_cons_succ]
        refine wpAnyH_done (by kernel_rfl) ?_ _
        refine NoPanic.normal ?_
        have HBn := Lib.hid (show Below w.heap.size w w' by have hbx := HB.out; exact by repeat (first | (with_reducible exact Below.refl _ _) | (with_reducible assumption) | (with_reducible refine bl_alloc ?_ _) | (with_reducible refine bl_drew ?_) | (with_reducible refine bl_drewN ?_ _) | ((with_reducible refine bl_set ?_ ?hb _); (case hb => first | (simp; done) | omega | (simp; omega))) | (with_reducible refine bl_trans ?_ (by assumption))))
        clear hb hc1 hf1 hc2 hf2
        go_wp2
        go_ret
        exact ⟨ret_bool (case_no (by omega) (caseAt_bad HX.out HI.out)).symm, HBn.out⟩
      · have HI := Lib.hid hin
        by_cases hk0 : 0 < k
        · obtain ⟨y, hy⟩ : ∃ y, xs[k - 1]? = some y := ⟨xs[k - 1]'(by omega), List.getElem?_eq_getElem _⟩
          have cp0 : wr.cell? ⟨b, off + (k - 1) * 4, none⟩ = some (.string y.code) := by simpa [cBox] using HC.out (k - 1) y hy 0 (by omega)
          have HY := Lib.hid hy
          clear hy
          have hkd : decide ((0 : Int) < (k : Int)) = true := by simp; omega
          have b0 : (0 : Int) ≤ ((k - 1 : Nat) : Int) := by omega
          have b1 : ((k - 1 : Nat) : Int) < (n : Int) := by omega
          have e1 : IntKind.i64.wrap ((k : Int) - 1) = ((k - 1 : Nat) : Int) := by rw [IntWalk.i64_in _ (by omega)]; omega
          rcases hls : Op.bytesLess y.code.toList x.code.toList with _ | _
          · have HF := Lib.hid (caseAt_less HX.out HY.out hk0 hls)
            go_wp2_with fail
            refine wp_region_noPanic ?_
            refine wp_region_held_drew (S := (fun w' => w'.cell? ⟨wr.heap.size, 0, none⟩ = some (.string x.code) ∧ w'.cell? ⟨wr.heap.size, 1, none⟩ = some (.int .i64 x.row) ∧ w'.cell? ⟨wr.heap.size, 2, none⟩ = some (.int .i64 x.col) ∧ w'.cell? ⟨wr.heap.size, 3, none⟩ = some (.int .i64 x.cnt) ∧ w'.cell? ⟨b, off + (k - 1) * 4, none⟩ = some (.string y.code))) (by kernel_rfl) (by (try dsimp only); go_keep) (fun hHeld => ?_)
            refine take_of (some 14) (i := 0) (v := ?vq7_0) rfl rfl (by kernel_rfl) (by kernel_rfl) (by kernel_rfl) (fun _ _ _ h => h) (Or.inl ⟨by rfl, ?hyq7_0⟩) (by assumption) ?restq7_0
            case hyq7_0 => (intro w hSw; (try dsimp only at hSw); go_simp; try with_reducible rfl)
            try simp only [Act.put, List.setIfInBounds_toArray, List.set_cons_zero, List.set_cons_succ]
            refine wpAnyH_ready (rs := [1]) (by kernel_rfl) (by simp) ?_
            refine AllReadyH.cons rfl (fun K hK => ?_) AllReadyH.nil
            go_simp
            (go_at_call 78; refine (caBox_any x _ hsz).mono ?_; rw [HI.out]; rintro e w' ⟨rfl, hb⟩; obtain ⟨hc1, hf1, hz1⟩ := bl_at hb (k := wr.heap.size) (by first | assumption | (simp; done) | (simp; omega)); obtain ⟨hc2, hf2, hz2⟩ := bl_at hb (k := b) (by first | assumption | (simp; done) | (simp; omega)))
            go_wp2_with fail
            refine hK.out _ _ (by (try dsimp only); go_keep) (fun hHeld => ?_)
            clear hK K
            try simp only [Act.put, List.setIfInBounds_toArray, List.set_cons_zero, List.set_cons_succ]
            refine take_of (some 16) (i := 2) (v := ?vq7_2) rfl rfl (by kernel_rfl) (by kernel_rfl) (by kernel_rfl) (fun _ _ _ h => h) (Or.inl ⟨by rfl, ?hyq7_2⟩) (by assumption) ?restq7_2
            case hyq7_2 => (intro w hSw; (try dsimp only at hSw); go_simp; try with_reducible rfl)
            try simp only [Act.put, List.setIfInBounds_toArray, List.set_cons_zero, List.set_cons_succ]
            refine take_of (some 17) (i := 3) (v := ?vq7_3) rfl rfl (by kernel_rfl) (by kernel_rfl) (by kernel_rfl) (fun _ _ _ h => h) (Or.inl ⟨by rfl, ?hyq7_3⟩) (by assumption) ?restq7_3
            case hyq7_3 => (intro w hSw; (try dsimp only at hSw); go_simp; try with_reducible rfl)
            try simp only [Act.put, List.setIfInBounds_toArray, List.set_cons_zero, List.set_cons_succ]
            refine take_of (some 18) (i := 4) (v := ?vq7_4) rfl rfl (by kernel_rfl) (by kernel_rfl) (by kernel_rfl) (fun _ _ _ h => h) (Or.inl ⟨by rfl, ?hyq7_4⟩) (by assumption) ?restq7_4
            case hyq7_4 => (intro w hSw; (try dsimp only at hSw); go_simp; try with_reducible rfl)
            try simp only [Act.put, List.setIfInBounds_toArray, List.set_cons_zero, List.set_cons_succ]
            refine take_of (some 19) (i := 5) (v := ?vq7_5) rfl rfl (by kernel_rfl) (by kernel_rfl) (by kernel_rfl) (fun _ _ _ h => h) (Or.inl ⟨by rfl, ?hyq7_5⟩) (by assumption) ?restq7_5
            case hyq7_5 => (intro w hSw; (try dsimp only at hSw); go_simp; try with_reducible rfl)
            try simp only [Act.put, List.setIfInBounds_toArray, List.set_cons_zero, List.set_cons_succ]
            refine take_of (some 20) (i := 6) (v := ?vq7_6) rfl rfl (by kernel_rfl) (by kernel_rfl) (by kernel_rfl) (fun _ _ _ h => h) (Or.inl ⟨by rfl, ?hyq7_6⟩) (by assumption) ?restq7_6
            case hyq7_6 => (intro w hSw; (try dsimp only at hSw); go_simp; try with_reducible rfl)
            try simp only [Act.put, List.setIfInBounds_toArray, List.set_cons_zero, List.set_cons_succ]
            refine take_of (some 21) (i := 7) (v := ?vq7_7) rfl rfl (by kernel_rfl) (by kernel_rfl) (by kernel_rfl) (fun _ _ _ h => h) (Or.inl ⟨by rfl, ?hyq7_7⟩) (by assumption) ?restq7_7
            case hyq7_7 => (intro w hSw; (try dsimp only at hSw); go_simp; try with_reducible rfl)
            try simp only [Act.put, List.setIfInBounds_toArray, List.set_cons_zero, List.set_cons_succ]
            refine take_of (some 22) (i := 8) (v := ?vq7_8) rfl rfl (by kernel_rfl) (by kernel_rfl) (by kernel_rfl) (fun _ _ _ h => h) (Or.inl ⟨by rfl, ?hyq7_8⟩) (by assumption) ?restq7_8
            case hyq7_8 => (intro w hSw; (try dsimp only at hSw); go_simp; try with_reducible rfl)
            try simp only [Act.put, List.setIfInBounds_toArray, List.set_cons_zero, List.set_cons_succ]
            refine take_of (some 23) (i := 9) (v := ?vq7_9) rfl rfl (by kernel_rfl) (by kernel_rfl) (by kernel_rfl) (fun _ _ _ h => h) (Or.inl ⟨by rfl, ?hyq7_9⟩) (by assumption) ?restq7_9
            case hyq7_9 => (intro w hSw; (try dsimp only at hSw); go_simp; try with_reducible rfl)
            try simp only [Act.put, List.setIfInBounds_toArray, List.set_cons_zero, List.set_cons_succ]
            refine take_of (some 24) (i := 10) (v := ?vq7_10) rfl rfl (by kernel_rfl) (by kernel_rfl) (by kernel_rfl) (fun _ _ _ h => h) (Or.inl ⟨by rfl, ?hyq7_10⟩) (by assumption) ?restq7_10
            case hyq7_10 => (intro w hSw; (try dsimp only at hSw); go_simp; try with_reducible rfl)
            try simp only [Act.put, List.setIfInBounds_toArray, List.set_cons_zero, List.set_cons_succ]
            refine take_of (some 25) (i := 11) (v := ?vq7_11) rfl rfl (by kernel_rfl) (by kernel_rfl) (by kernel_rfl) (fun _ _ _ h => h) (Or.inl ⟨by rfl, ?hyq7_11⟩) (by assumption) ?restq7_11
            case hyq7_11 => (intro w hSw; (try dsimp only at hSw); go_simp; try with_reducible rfl)
            try simp only [Act.put, List.setIfInBounds_toArray, List.set_cons_zero, List.set_cons_succ]
            refine take_of (some 26) (i := 12) (v := ?vq7_12) rfl rfl (by kernel_rfl) (by kernel_rfl) (by kernel_rfl) (fun _ _ _ h => h) (Or.inl ⟨by rfl, ?hyq7_12⟩) (by assumption) ?restq7_12
            case hyq7_12 => (intro w hSw; (try dsimp only at hSw); go_simp; try with_reducible rfl)
            try simp only [Act.put, List.setIfInBounds_toArray, List.set_cons_zero, List.set_cons_succ]
            refine take_of (some 27) (i := 13) (v := ?vq7_13) rfl rfl (by kernel_rfl) (by kernel_rfl) (by kernel_rfl) (fun _ _ _ h => h) (Or.inl ⟨by rfl, ?hyq7_13⟩) (by assumption) ?restq7_13
            case hyq7_13 => (intro w hSw; (try dsimp only at hSw); go_simp; try with_reducible rfl)
            try simp only [Act.put, List.setIfInBounds_toArray, List.set_cons_zero, List.set_cons_succ]
            refine take_of (some 28) (i := 14) (v := ?vq7_14) rfl rfl (by kernel_rfl) (by kernel_rfl) (by kernel_rfl) (fun _ _ _ h => h) (Or.inl ⟨by rfl, ?hyq7_14⟩) (by assumption) ?restq7_14
            case hyq7_14 => (intro w hSw; (try dsimp only at hSw); go_simp; try with_reducible rfl)
            try simp only [Act.put, List.setIfInBounds_toArray, List.set_cons_zero, List.set_cons_succ]
            refine take_of (some 29) (i := 15) (v := ?vq7_15) rfl rfl (by kernel_rfl) (by kernel_rfl) (by kernel_rfl) (fun _ _ _ h => h) (Or.inl ⟨by rfl, ?hyq7_15⟩) (by assumption) ?restq7_15
            case hyq7_15 => (intro w hSw; (try dsimp only at hSw); go_simp; try with_reducible rfl)
            try simp only [Act.put, List.setIfInBounds_toArray, List.set_cons_zero, List.set_cons_succ]
            refine take_of (some 30) (i := 16) (v := ?vq7_16) rfl rfl (by kernel_rfl) (by kernel_rfl) (by kernel_rfl) (fun _ _ _ h => h) (Or.inl ⟨by rfl, ?hyq7_16⟩) (by assumption) ?restq7_16
            case hyq7_16 => (intro w hSw; (try dsimp only at hSw); go_simp; try with_reducible rfl)
            try simp only [Act.put, List.setIfInBounds_toArray, List.set_cons_zero, List.set_cons_succ]
            refine take_of (some 31) (i := 17) (v := ?vq7_17) rfl rfl (by kernel_rfl) (by kernel_rfl) (by kernel_rfl) (fun _ _ _ h => h) (Or.inl ⟨by rfl, ?hyq7_17⟩) (by assumption) ?restq7_17
            case hyq7_17 => (intro w hSw; (try dsimp only at hSw); go_simp; try with_reducible rfl)
            try simp only [Act.put, List.setIfInBounds_toArray, List.set_cons_zero, List.set_cons_succ]
            refine wpAnyH_done (by kernel_rfl) ?_ _
            refine NoPanic.normal ?_
            have HBn := Lib.hid (show Below w.heap.size w w' by have hbx := HB.out; exact by repeat (first | (with_reducible exact Below.refl _ _) | (with_reducible assumption) | (with_reducible refine bl_alloc ?_ _) | (with_reducible refine bl_drew ?_) | (with_reducible refine bl_drewN ?_ _) | ((with_reducible refine bl_set ?_ ?hb _); (case hb => first | (simp; done) | omega | (simp; omega))) | (with_reducible refine bl_trans ?_ (by assumption))))
            clear hb hc1 hf1 hc2 hf2 e1
            go_wp2
            go_ret
            exact ⟨ret_bool (case_no (by omega) HF.out).symm, HBn.out⟩
          · have HST := Lib.hid (caseAt_step HX.out HY.out hk0 HI.out hls)
            go_wp2_with fail
            refine wp_region_noPanic ?_
            refine wp_region_held_drew (S := (fun w' => w'.cell? ⟨wr.heap.size, 0, none⟩ = some (.string x.code) ∧ w'.cell? ⟨wr.heap.size, 1, none⟩ = some (.int .i64 x.row) ∧ w'.cell? ⟨wr.heap.size, 2, none⟩ = some (.int .i64 x.col) ∧ w'.cell? ⟨wr.heap.size, 3, none⟩ = some (.int .i64 x.cnt) ∧ w'.cell? ⟨b, off + (k - 1) * 4, none⟩ = some (.string y.code))) (by kernel_rfl) (by (try dsimp only); go_keep) (fun hHeld => ?_)
            refine take_of (some 14) (i := 0) (v := ?vq8_0) rfl rfl (by kernel_rfl) (by kernel_rfl) (by kernel_rfl) (fun _ _ _ h => h) (Or.inl ⟨by rfl, ?hyq8_0⟩) (by assumption) ?restq8_0
            case hyq8_0 => (intro w hSw; (try dsimp only at hSw); go_simp; try with_reducible rfl)
            try simp only [Act.put, List.setIfInBounds_toArray, List.set_cons_zero, List.set_cons_succ]
            refine wpAnyH_ready (rs := [1]) (by kernel_rfl) (by simp) ?_
            refine AllReadyH.cons rfl (fun K hK => ?_) AllReadyH.nil
            go_simp
            (go_at_call 78; refine (caBox_any x _ hsz).mono ?_; rw [HI.out]; rintro e w' ⟨rfl, hb⟩; obtain ⟨hc1, hf1, hz1⟩ := bl_at hb (k := wr.heap.size) (by first | assumption | (simp; done) | (simp; omega)); obtain ⟨hc2, hf2, hz2⟩ := bl_at hb (k := b) (by first | assumption | (simp; done) | (simp; omega)))
            go_wp2_with fail
            refine hK.out _ _ (by (try dsimp only); go_keep) (fun hHeld => ?_)
            clear hK K
            try simp only [Act.put, List.setIfInBounds_toArray, List.set_cons_zero, List.set_cons_succ]
            refine take_of (some 16) (i := 2) (v := ?vq8_2) rfl rfl (by kernel_rfl) (by kernel_rfl) (by kernel_rfl) (fun _ _ _ h => h) (Or.inl ⟨by rfl, ?hyq8_2⟩) (by assumption) ?restq8_2
            case hyq8_2 => (intro w hSw; (try dsimp only at hSw); go_simp; try with_reducible rfl)
            try simp only [Act.put, List.setIfInBounds_toArray, List.set_cons_zero, List.set_cons_succ]
            refine take_of (some 17) (i := 3) (v := ?vq8_3) rfl rfl (by kernel_rfl) (by kernel_rfl) (by kernel_rfl) (fun _ _ _ h => h) (Or.inl ⟨by rfl, ?hyq8_3⟩) (by assumption) ?restq8_3
            case hyq8_3 => (intro w hSw; (try dsimp only at hSw); go_simp; try with_reducible rfl)
            try simp only [Act.put, List.setIfInBounds_toArray, List.set_cons_zero, List.set_cons_succ]
            refine take_of (some 18) (i := 4) (v := ?vq8_4) rfl rfl (by kernel_rfl) (by kernel_rfl) (by kernel_rfl) (fun _ _ _ h => h) (Or.inl ⟨by rfl, ?hyq8_4⟩) (by assumption) ?restq8_4
            case hyq8_4 => (intro w hSw; (try dsimp only at hSw); go_simp; try with_reducible rfl)
            try simp only [Act.put, List.setIfInBounds_toArray, List.set_cons_zero, List.set_cons_succ]
            refine take_of (some 19) (i := 5) (v := ?vq8_5) rfl rfl (by kernel_rfl) (by kernel_rfl) (by kernel_rfl) (fun _ _ _ h => h) (Or.inl ⟨by rfl, ?hyq8_5⟩) (by assumption) ?restq8_5
            case hyq8_5 => (intro w hSw; (try dsimp only at hSw); go_simp; try with_reducible rfl)
            try simp only [Act.put, List.setIfInBounds_toArray, List.set_cons_zero, List.set_cons_succ]
            refine take_of (some 20) (i := 6) (v := ?vq8_6) rfl rfl (by kernel_rfl) (by kernel_rfl) (by kernel_rfl) (fun _ _ _ h => h) (Or.inl ⟨by rfl, ?hyq8_6⟩) (by assumption) ?restq8_6
            case hyq8_6 => (intro w hSw; (try dsimp only at hSw); go_simp; try with_reducible rfl)
            try simp only [Act.put, List.setIfInBounds_toArray, List.set_cons_zero, List.set_cons_succ]
            refine take_of (some 21) (i := 7) (v := ?vq8_7) rfl rfl (by kernel_rfl) (by kernel_rfl) (by kernel_rfl) (fun _ _ _ h => h) (Or.inl ⟨by rfl, ?hyq8_7⟩) (by assumption) ?restq8_7
            case hyq8_7 => (intro w hSw; (try dsimp only at hSw); go_simp; try with_reducible rfl)
            try simp only [Act.put, List.setIfInBounds_toArray, List.set_cons_zero, List.set_cons_succ]
            refine take_of (some 22) (i := 8) (v := ?vq8_8) rfl rfl (by kernel_rfl) (by kernel_rfl) (by kernel_rfl) (fun _ _ _ h => h) (Or.inl ⟨by rfl, ?hyq8_8⟩) (by assumption) ?restq8_8
            case hyq8_8 => (intro w hSw; (try dsimp only at hSw); go_simp; try with_reducible rfl)
            try simp only [Act.put, List.setIfInBounds_toArray, List.set_cons_zero, List.set_cons_succ]
            refine take_of (some 23) (i := 9) (v := ?vq8_9) rfl rfl (by kernel_rfl) (by kernel_rfl) (by kernel_rfl) (fun _ _ _ h => h) (Or.inl ⟨by rfl, ?hyq8_9⟩) (by assumption) ?restq8_9
            case hyq8_9 => (intro w hSw; (try dsimp only at hSw); go_simp; try with_reducible rfl)
            try simp only [Act.put, List.setIfInBounds_toArray, List.set_cons_zero, List.set_cons_succ]
            refine take_of (some 24) (i := 10) (v := ?vq8_10) rfl rfl (by kernel_rfl) (by kernel_rfl) (by kernel_rfl) (fun _ _ _ h => h) (Or.inl ⟨by rfl, ?hyq8_10⟩) (by assumption) ?restq8_10
            case hyq8_10 => (intro w hSw; (try dsimp only at hSw); go_simp; try with_reducible rfl)
            try simp only [Act.put, List.setIfInBounds_toArray, List.set_cons_zero, List.set_cons_succ]
            refine take_of (some 25) (i := 11) (v := ?vq8_11) rfl rfl (by kernel_rfl) (by kernel_rfl) (by kernel_rfl) (fun _ _ _ h => h) (Or.inl ⟨by rfl, ?hyq8_11⟩) (by assumption) ?restq8_11
            case hyq8_11 => (intro w hSw; (try dsimp only at hSw); go_simp; try with_reducible rfl)
            try simp only [Act.put, List.setIfInBounds_toArray, List.set_cons_zero, List.set_cons_succ]
            refine take_of (some 26) (i := 12) (v := ?vq8_12) rfl rfl (by kernel_rfl) (by kernel_rfl) (by kernel_rfl) (fun _ _ _ h => h) (Or.inl ⟨by rfl, ?hyq8_12⟩) (by assumption) ?restq8_12
            case hyq8_12 => (intro w hSw; (try dsimp only at hSw); go_simp; try with_reducible rfl)
            try simp only [Act.put, List.setIfInBounds_toArray, List.set_cons_zero, List.set_cons_succ]
            refine take_of (some 27) (i := 13) (v := ?vq8_13) rfl rfl (by kernel_rfl) (by kernel_rfl) (by kernel_rfl) (fun _ _ _ h => h) (Or.inl ⟨by rfl, ?hyq8_13⟩) (by assumption) ?restq8_13
            case hyq8_13 => (intro w hSw; (try dsimp only at hSw); go_simp; try with_reducible rfl)
            try simp only [Act.put, List.setIfInBounds_toArray, List.set_cons_zero, List.set_cons_succ]
            refine take_of (some 28) (i := 14) (v := ?vq8_14) rfl rfl (by kernel_rfl) (by kernel_rfl) (by kernel_rfl) (fun _ _ _ h => h) (Or.inl ⟨by rfl, ?hyq8_14⟩) (by assumption) ?restq8_14
            case hyq8_14 => (intro w hSw; (try dsimp only at hSw); go_simp; try with_reducible rfl)
            try simp only [Act.put, List.setIfInBounds_toArray, List.set_cons_zero, List.set_cons_succ]
            refine take_of (some 29) (i := 15) (v := ?vq8_15) rfl rfl (by kernel_rfl) (by kernel_rfl) (by kernel_rfl) (fun _ _ _ h => h) (Or.inl ⟨by rfl, ?hyq8_15⟩) (by assumption) ?restq8_15
            case hyq8_15 => (intro w hSw; (try dsimp only at hSw); go_simp; try with_reducible rfl)
            try simp only [Act.put, List.setIfInBounds_toArray, List.set_cons_zero, List.set_cons_succ]
            refine take_of (some 30) (i := 16) (v := ?vq8_16) rfl rfl (by kernel_rfl) (by kernel_rfl) (by kernel_rfl) (fun _ _ _ h => h) (Or.inl ⟨by rfl, ?hyq8_16⟩) (by assumption) ?restq8_16
            case hyq8_16 => (intro w hSw; (try dsimp only at hSw); go_simp; try with_reducible rfl)
            try simp only [Act.put, List.setIfInBounds_toArray, List.set_cons_zero, List.set_cons_succ]
            refine take_of (some 31) (i := 17) (v := ?vq8_17) rfl rfl (by kernel_rfl) (by kernel_rfl) (by kernel_rfl) (fun _ _ _ h => h) (Or.inl ⟨by rfl, ?hyq8_17⟩) (by assumption) ?restq8_17
            case hyq8_17 => (intro w hSw; (try dsimp only at hSw); go_simp; try with_reducible rfl)
            try simp only [Act.put, List.setIfInBounds_toArray, List.set_cons_zero, List.set_cons_succ]
            refine wpAnyH_done (by kernel_rfl) ?_ _
            refine NoPanic.normal ?_
            have HBn := Lib.hid (show Below w.heap.size w w' by have hbx := HB.out; exact by repeat (first | (with_reducible exact Below.refl _ _) | (with_reducible assumption) | (with_reducible refine bl_alloc ?_ _) | (with_reducible refine bl_drew ?_) | (with_reducible refine bl_drewN ?_ _) | ((with_reducible refine bl_set ?_ ?hb _); (case hb => first | (simp; done) | omega | (simp; omega))) | (with_reducible refine bl_trans ?_ (by assumption))))
            have HRd := Lib.hid (HRK.out w' (by repeat (first | (with_reducible exact Below.refl _ _) | (with_reducible assumption) | (with_reducible refine bl_alloc ?_ _) | (with_reducible refine bl_drew ?_) | (with_reducible refine bl_drewN ?_ _) | ((with_reducible refine bl_set ?_ ?hb _); (case hb => first | (simp; done) | omega | (simp; omega))) | (with_reducible refine bl_trans ?_ (by assumption)))))
            have x1 : w'.cell? ⟨wr.heap.size, 1, none⟩ = some (.int .i64 x.row) := by rw [hc1]; go_simp
            have x2 : w'.cell? ⟨wr.heap.size, 2, none⟩ = some (.int .i64 x.col) := by rw [hc1]; go_simp
            clear hb hc1 hf1 hc2 hf2 e1 c0 c1 c2 c3 cp0
            go_wp2
            obtain ⟨wo, rfl⟩ : ∃ wo : World, wo = wr := ⟨_, rfl⟩
            go_loopw [36] (fun i wi => ∃ j : Nat, j ≤ k ∧ i = .int .i64 j ∧ Below w'.heap.size w' wi ∧ Hid (((xs.take k).take j).all (fun y => !atB x.row x.col y) = true)) (fun i _ => k - (intOf i).toNat)
            case atStart => exact ⟨0, Nat.zero_le _, rfl, Below.refl _ _, rfl⟩
            case round =>
              obtain ⟨j, hj, rfl, hbi, HAI⟩ := hrel
              by_cases hltj : j < k
              · obtain ⟨bj, offj, z, he, hbBj, hz, d0, d1, d2, d3⟩ := ((HRd.out.below (hbi.mono (by omega))).atBox hltj)
                obtain ⟨rfl, rfl⟩ : b = bj ∧ off = offj := by simpa using he
                obtain ⟨hcw, hfw, hzw⟩ := bl_at hbi hz1
                have y1 := (hcw 1).trans x1
                have y2 := (hcw 2).trans x2
                have HZ := Lib.hid hz
                have HBI := Lib.hid hbi
                have hbwi : b < wr.heap.size := by have := hbi.size; omega
                have hni : wo.heap.size ≠ wr.heap.size := by omega
                have hni' : wr.heap.size ≠ wo.heap.size := by omega
                clear he hz hbi hcw hfw
                rcases h1 : (z.row == x.row) with _ | _
                · have HI2 := Lib.hid (show (!atB x.row x.col z) = true by simp [atB, h1])
                  go_wp2
                  go_roundw
                  case rel => exact ⟨j + 1, by omega, by go_num, bl_trans HBI.out (bl_alloc (Below.refl _ _) _), all_snoc (p := fun y => !atB x.row x.col y) HZ.out HAI.out HI2.out⟩
                  case measure => simp [intOf]; omega
                · rcases h2 : (z.col == x.col) with _ | _
                  · have HI2 := Lib.hid (show (!atB x.row x.col z) = true by simp [atB, h2])
                    go_wp2
                    go_roundw
                    case rel => exact ⟨j + 1, by omega, by go_num, bl_trans HBI.out (bl_alloc (Below.refl _ _) _), all_snoc (p := fun y => !atB x.row x.col y) HZ.out HAI.out HI2.out⟩
                    case measure => simp [intOf]; omega
                  · have HI2 := Lib.hid (show atB x.row x.col z = true by simp [atB, h1, h2])
                    have HF := Lib.hid (show caseAt xs k = false by rw [HST.out, show takenB (xs.take k) x.row x.col = true from any_hit HZ.out HI2.out]; rfl)
                    go_wp2
                    go_ret
                    exact ⟨ret_bool (case_no (by omega) HF.out).symm, bl_trans HBn.out (bl_trans HBI.out (bl_alloc (Below.refl _ _) _))⟩
              · obtain rfl : j = k := by omega
                have HF := Lib.hid (show caseAt xs j = true by rw [HST.out, tk_no HAI.out]; rfl)
                have HBI := Lib.hid hbi
                clear hbi
                go_wp2
                go_roundw
                case rel => exact ⟨j + 1, by omega, by go_num, bl_trans HBn.out HBI.out, caseTo_snoc HA.out HF.out⟩
                case measure => simp [intOf]; omega
        · have hkd : decide ((0 : Int) < (k : Int)) = false := by simp; omega
          have HF := Lib.hid (show caseAt xs k = true by obtain rfl : k = 0 := (by omega); exact caseAt_zero HX.out HI.out)
          go_wp2_with fail
          refine wp_region_noPanic ?_
          refine wp_region_held_drew (S := (fun w' => w'.cell? ⟨wr.heap.size, 0, none⟩ = some (.string x.code) ∧ w'.cell? ⟨wr.heap.size, 1, none⟩ = some (.int .i64 x.row) ∧ w'.cell? ⟨wr.heap.size, 2, none⟩ = some (.int .i64 x.col) ∧ w'.cell? ⟨wr.heap.size, 3, none⟩ = some (.int .i64 x.cnt))) (by kernel_rfl) (by (try dsimp only); go_keep) (fun hHeld => ?_)
          refine take_of (some 14) (i := 0) (v := ?vq9_0) rfl rfl (by kernel_rfl) (by kernel_rfl) (by kernel_rfl) (fun _ _ _ h => h) (Or.inl ⟨by rfl, ?hyq9_0⟩) (by assumption) ?restq9_0
          case hyq9_0 => (intro w hSw; (try dsimp only at hSw); go_simp; try with_reducible rfl)
          try simp only [Act.put, List.setIfInBounds_toArray, List.set_cons_zero, List.set_cons_succ]
          refine wpAnyH_ready (rs := [1]) (by kernel_rfl) (by simp) ?_
          refine AllReadyH.cons rfl (fun K hK => ?_) AllReadyH.nil
          go_simp
          (go_at_call 78; refine (caBox_any x _ hsz).mono ?_; rw [HI.out]; rintro e w' ⟨rfl, hb⟩; obtain ⟨hc1, hf1, hz1⟩ := bl_at hb (k := wr.heap.size) (by first | assumption | (simp; done) | (simp; omega)); obtain ⟨hc2, hf2, hz2⟩ := bl_at hb (k := b) (by first | assumption | (simp; done) | (simp; omega)))
          go_wp2_with fail
          refine hK.out _ _ (by (try dsimp only); go_keep) (fun hHeld => ?_)
          clear hK K
          try simp only [Act.put, List.setIfInBounds_toArray, List.set_cons_zero, List.set_cons_succ]
          refine take_of (some 16) (i := 2) (v := ?vq9_2) rfl rfl (by kernel_rfl) (by kernel_rfl) (by kernel_rfl) (fun _ _ _ h => h) (Or.inl ⟨by rfl, ?hyq9_2⟩) (by assumption) ?restq9_2
          case hyq9_2 => (intro w hSw; (try dsimp only at hSw); go_simp; try with_reducible rfl)
          try simp only [Act.put, List.setIfInBounds_toArray, List.set_cons_zero, List.set_cons_succ]
          refine take_of (some 17) (i := 3) (v := ?vq9_3) rfl rfl (by kernel_rfl) (by kernel_rfl) (by kernel_rfl) (fun _ _ _ h => h) (Or.inl ⟨by rfl, ?hyq9_3⟩) (by assumption) ?restq9_3
          case hyq9_3 => (intro w hSw; (try dsimp only at hSw); go_simp; try with_reducible rfl)
          try simp only [Act.put, List.setIfInBounds_toArray, List.set_cons_zero, List.set_cons_succ]
          refine take_of (some 18) (i := 4) (v := ?vq9_4) rfl rfl (by kernel_rfl) (by kernel_rfl) (by kernel_rfl) (fun _ _ _ h => h) (Or.inl ⟨by rfl, ?hyq9_4⟩) (by assumption) ?restq9_4
          case hyq9_4 => (intro w hSw; (try dsimp only at hSw); go_simp; try with_reducible rfl)
          try simp only [Act.put, List.setIfInBounds_toArray, List.set_cons_zero, List.set_cons_succ]
          refine take_of (some 19) (i := 5) (v := ?vq9_5) rfl rfl (by kernel_rfl) (by kernel_rfl) (by kernel_rfl) (fun _ _ _ h => h) (Or.inl ⟨by rfl, ?hyq9_5⟩) (by assumption) ?restq9_5
          case hyq9_5 => (intro w hSw; (try dsimp only at hSw); go_simp; try with_reducible rfl)
          try simp only [Act.put, List.setIfInBounds_toArray, List.set_cons_zero, List.set_cons_succ]
          refine take_of (some 20) (i := 6) (v := ?vq9_6) rfl rfl (by kernel_rfl) (by kernel_rfl) (by kernel_rfl) (fun _ _ _ h => h) (Or.inl ⟨by rfl, ?hyq9_6⟩) (by assumption) ?restq9_6
          case hyq9_6 => (intro w hSw; (try dsimp only at hSw); go_simp; try with_reducible rfl)
          try simp only [Act.put, List.setIfInBounds_toArray, List.set_cons_zero, List.set_cons_succ]
          refine take_of (some 21) (i := 7) (v := undef) rfl rfl (by kernel_rfl) (by kernel_rfl) (by kernel_rfl) (fun _ _ _ h => h) (Or.inr ⟨by rfl, rfl⟩) (by assumption) ?_
          try simp only [Act.put, List.setIfInBounds_toArray, List.set_cons_zero, List.set_cons_succ]
          refine take_of (some 22) (i := 8) (v := undef) rfl rfl (by kernel_rfl) (by kernel_rfl) (by kernel_rfl) (fun _ _ _ h => h) (Or.inr ⟨by rfl, rfl⟩) (by assumption) ?_
          try simp only [Act.put, List.setIfInBounds_toArray, List.set_cons_zero, List.set_cons_succ]
          refine take_of (some 23) (i := 9) (v := undef) rfl rfl (by kernel_rfl) (by kernel_rfl) (by kernel_rfl) (fun _ _ _ h => h) (Or.inr ⟨by rfl, rfl⟩) (by assumption) ?_
          try simp only [Act.put, List.setIfInBounds_toArray, List.set_cons_zero, List.set_cons_succ]
          refine take_of (some 24) (i := 10) (v := undef) rfl rfl (by kernel_rfl) (by kernel_rfl) (by kernel_rfl) (fun _ _ _ h => h) (Or.inr ⟨by rfl, rfl⟩) (by assumption) ?_
          try simp only [Act.put, List.setIfInBounds_toArray, List.set_cons_zero, List.set_cons_succ]
          refine take_of (some 25) (i := 11) (v := undef) rfl rfl (by kernel_rfl) (by kernel_rfl) (by kernel_rfl) (fun _ _ _ h => h) (Or.inr ⟨by rfl, rfl⟩) (by assumption) ?_
          try simp only [Act.put, List.setIfInBounds_toArray, List.set_cons_zero, List.set_cons_succ]
          refine take_of (some 26) (i := 12) (v := undef) rfl rfl (by kernel_rfl) (by kernel_rfl) (by kernel_rfl) (fun _ _ _ h => h) (Or.inr ⟨by rfl, rfl⟩) (by assumption) ?_
          try simp only [Act.put, List.setIfInBounds_toArray, List.set_cons_zero, List.set_cons_succ]
          refine take_of (some 27) (i := 13) (v := undef) rfl rfl (by kernel_rfl) (by kernel_rfl) (by kernel_rfl) (fun _ _ _ h => h) (Or.inr ⟨by rfl, rfl⟩) (by assumption) ?_
          try simp only [Act.put, List.setIfInBounds_toArray, List.set_cons_zero, List.set_cons_succ]
          refine take_of (some 28) (i := 14) (v := undef) rfl rfl (by kernel_rfl) (by kernel_rfl) (by kernel_rfl) (fun _ _ _ h => h) (Or.inr ⟨by rfl, rfl⟩) (by assumption) ?_
          try simp only [Act.put, List.setIfInBounds_toArray, List.set_cons_zero, List.set_cons_succ]
          refine take_of (some 29) (i := 15) (v := undef) rfl rfl (by kernel_rfl) (by kernel_rfl) (by kernel_rfl) (fun _ _ _ h => h) (Or.inr ⟨by rfl, rfl⟩) (by assumption) ?_
          try simp only [Act.put, List.setIfInBounds_toArray, List.set_cons_zero, List.set_cons_succ]
          refine take_of (some 30) (i := 16) (v := ?vq9_16) rfl rfl (by kernel_rfl) (by kernel_rfl) (by kernel_rfl) (fun _ _ _ h => h) (Or.inl ⟨by rfl, ?hyq9_16⟩) (by assumption) ?restq9_16
          case hyq9_16 => (intro w hSw; (try dsimp only at hSw); go_simp; try with_reducible rfl)
          try simp only [Act.put, List.setIfInBounds_toArray, List.set_cons_zero, List.set_cons_succ]
          refine take_of (some 31) (i := 17) (v := ?vq9_17) rfl rfl (by kernel_rfl) (by kernel_rfl) (by kernel_rfl) (fun _ _ _ h => h) (Or.inl ⟨by rfl, ?hyq9_17⟩) (by assumption) ?restq9_17
          case hyq9_17 => (intro w hSw; (try dsimp only at hSw); go_simp; try with_reducible rfl)
          try simp only [Act.put, List.setIfInBounds_toArray, List.set_cons_zero, List.set_cons_succ]
          refine wpAnyH_done (by kernel_rfl) ?_ _
          refine NoPanic.normal ?_
          have HBn := Lib.hid (show Below w.heap.size w w' by have hbx := HB.out; exact by repeat (first | (with_reducible exact Below.refl _ _) | (with_reducible assumption) | (with_reducible refine bl_alloc ?_ _) | (with_reducible refine bl_drew ?_) | (with_reducible refine bl_drewN ?_ _) | ((with_reducible refine bl_set ?_ ?hb _); (case hb => first | (simp; done) | omega | (simp; omega))) | (with_reducible refine bl_trans ?_ (by assumption))))
          clear hb hc1 hf1 hc2 hf2 c0 c1 c2 c3
          go_wp2
          go_loopw [36] (fun i wi => i = .int .i64 0 ∧ Below w'.heap.size w' wi) (fun i _ => 0)
          case atStart => exact ⟨rfl, Below.refl _ _⟩
          case round =>
            obtain ⟨rfl, hbi⟩ := hrel
            go_wp2
            go_roundw
            case rel => exact ⟨k + 1, by omega, by go_num, bl_trans HBn.out hbi, caseTo_snoc HA.out HF.out⟩
            case measure => simp [intOf]; omega
    · obtain rfl : k = n := by omega
      have HE := Lib.hid (case_end (by omega) HA.out)
      go_wp2_with (go_at_call 76; refine (l1In_any _ _ _ _).mono ?_; rintro e w' ⟨rfl, rfl⟩)
      go_ret
      exact ⟨ret_bool (by rw [HE.out, hl]), hb⟩
end Go.Proofs.YtgfobchpkjpiiaaDoor
