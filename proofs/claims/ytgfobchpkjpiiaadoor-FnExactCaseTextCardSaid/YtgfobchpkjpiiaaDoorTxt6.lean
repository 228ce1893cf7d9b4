/-
  The text of a case: contracts and the law's walk.
-/
import Derived.Test.YtgfobchpkjpiiaaDoorTxt3
import Derived.Test.YtgfobchpkjpiiaaDoorCa3
namespace Go.Proofs.YtgfobchpkjpiiaaDoor
open Go.RowKit
set_option linter.unusedVariables false
attribute [local go_sem ↓] Go.wp_at_zero Go.wp_at_succ
attribute [local go_sem high] run_cat

theorem box_small {x : Box} (h : boxB x = true) : x.code.size ≤ 3 ∧ (0 ≤ x.row ∧ x.row ≤ 9) ∧ (0 ≤ x.col ∧ x.col ≤ 9) ∧ (0 ≤ x.cnt ∧ x.cnt ≤ 9999) := by
  unfold boxB lettersB at h
  simp only [Bool.and_eq_true] at h
  have h1 := inB_iff.1 h.1.2
  have h2 := inB_iff.1 h.2.1
  have h3 := inB_iff.1 h.2.2.1
  have h4 := inB_iff.1 h.2.2.2
  omega
/-- the text of one box -/
def bxT (cd : ByteArray) (r q m : Nat) : ByteArray := catS (catS (catS (catS (catS (catS (catS cd ⟨#[64]⟩) (numS r)) ⟨#[46]⟩) (numS q)) ⟨#[120]⟩) (numS m)) ⟨#[59]⟩
theorem bxT_size {cd : ByteArray} {r q m : Nat} (h : cd.size ≤ 3) (s1 : (numS r).size ≤ 12) (s2 : (numS q).size ≤ 12) (s3 : (numS m).size ≤ 12) : (bxT cd r q m).size ≤ 43 := by
  have e1 : (⟨#[64]⟩ : ByteArray).size = 1 := rfl
  have e2 : (⟨#[46]⟩ : ByteArray).size = 1 := rfl
  have e3 : (⟨#[120]⟩ : ByteArray).size = 1 := rfl
  have e4 : (⟨#[59]⟩ : ByteArray).size = 1 := rfl
  unfold bxT
  simp only [catS_size, e1, e2, e3, e4]
  omega
theorem box_fits {cd t : ByteArray} {r q m j : Nat} (h : cd.size ≤ 3) (s1 : (numS r).size ≤ 12) (s2 : (numS q).size ≤ 12) (s3 : (numS m).size ≤ 12) (ht : t.size ≤ 43 * j) (hj : j ≤ 32) :
    Fit cd ⟨#[64]⟩ ∧ Fit (catS cd ⟨#[64]⟩) (numS r) ∧ Fit (catS (catS cd ⟨#[64]⟩) (numS r)) ⟨#[46]⟩ ∧ Fit (catS (catS (catS cd ⟨#[64]⟩) (numS r)) ⟨#[46]⟩) (numS q) ∧ Fit (catS (catS (catS (catS cd ⟨#[64]⟩) (numS r)) ⟨#[46]⟩) (numS q)) ⟨#[120]⟩
    ∧ Fit (catS (catS (catS (catS (catS cd ⟨#[64]⟩) (numS r)) ⟨#[46]⟩) (numS q)) ⟨#[120]⟩) (numS m) ∧ Fit (catS (catS (catS (catS (catS (catS cd ⟨#[64]⟩) (numS r)) ⟨#[46]⟩) (numS q)) ⟨#[120]⟩) (numS m)) ⟨#[59]⟩
    ∧ Fit t (catS (catS (catS (catS (catS (catS (catS cd ⟨#[64]⟩) (numS r)) ⟨#[46]⟩) (numS q)) ⟨#[120]⟩) (numS m)) ⟨#[59]⟩) := by
  have e1 : (⟨#[64]⟩ : ByteArray).size = 1 := rfl
  have e2 : (⟨#[46]⟩ : ByteArray).size = 1 := rfl
  have e3 : (⟨#[120]⟩ : ByteArray).size = 1 := rfl
  have e4 : (⟨#[59]⟩ : ByteArray).size = 1 := rfl
  unfold Fit
  simp only [catS_size, e1, e2, e3, e4]
  omega
def cT (xs : List Box) : Nat → ByteArray
  | 0 => ⟨#[]⟩
  | k + 1 => match xs[k]? with
    | some x => catS (cT xs k) (bxT x.code x.row.toNat x.col.toNat x.cnt.toNat)
    | none => cT xs k
theorem cT_snoc {xs : List Box} {k : Nat} {x : Box} (h : xs[k]? = some x) : cT xs (k + 1) = catS (cT xs k) (bxT x.code x.row.toNat x.col.toNat x.cnt.toNat) := by rw [cT, h]
theorem cT_size {xs : List Box} (hf : caseB xs = true) : ∀ k, (cT xs k).size ≤ 43 * k
  | 0 => by show (0 : Nat) ≤ _; omega
  | k + 1 => by
    have ih := cT_size hf k
    rcases h : xs[k]? with _ | x
    · rw [cT, h]; show (cT xs k).size ≤ _; omega
    · obtain ⟨h1, h2, h3, h4⟩ := box_small (case_each hf h).1
      have := bxT_size (cd := x.code) h1 (numS_size (n := x.row.toNat) (by omega)) (numS_size (n := x.col.toNat) (by omega)) (numS_size (n := x.cnt.toNat) (by omega))
      rw [cT_snoc h, catS_size]; omega
set_option maxHeartbeats 4000000 in
theorem caText_any (A : Option Addr) (n c : Nat) (xs : List Box) (w : World) (hr : Rd cBox 4 w w.heap.size A n xs) (hf : caseB xs = true) :
    Calls Tryd.prog 54 #[.slice A n c] w fun e w' => e = .returned (.string (cT xs n)) ∧ Below w.heap.size w w' := by
  have hl := hr.1
  have hlen := case_len hf
  have HR := Lib.hid hr
  have HF := Lib.hid hf
  have HSZ := Lib.hid (cT_size hf)
  clear hr hf
  go_enter Tryd.func54, Tryd.ntmps54
  go_wp2
  go_loopw [3, 8] (fun s i wr => ∃ j : Nat, j ≤ n ∧ i = .int .i64 j ∧ s = .string (cT xs j) ∧ Below w.heap.size w wr) (fun _ i _ => n - (intOf i).toNat)
  case atStart => exact ⟨0, Nat.zero_le _, rfl, rfl, Below.refl _ _⟩
  case round =>
    obtain ⟨j, hj, rfl, rfl, hbj⟩ := hrel
    have BJ := Lib.hid hbj
    have hsz := hbj.size
    have hsj := HSZ.out j
    by_cases hlt : j < n
    · obtain ⟨bo, offo, x, rfl, hbB, hik, hc0, hc1, hc2, hc3⟩ := (HR.out.below hbj).atBox hlt
      have hs := (case_each HF.out hik).1
      obtain ⟨hcd, hrow, hcol, hcnt⟩ := box_small hs
      have HN := Lib.hid (cT_snoc hik)
      clear hik hs hbj
      obtain ⟨cd, st1, st2, st3⟩ := x
      dsimp only at hc0 hc1 hc2 hc3 hcd hrow hcol hcnt HN
      obtain ⟨r, rfl⟩ : ∃ m : Nat, st1 = (m : Int) := ⟨st1.toNat, by omega⟩
      obtain ⟨q, rfl⟩ : ∃ m : Nat, st2 = (m : Int) := ⟨st2.toNat, by omega⟩
      obtain ⟨m, rfl⟩ : ∃ m : Nat, st3 = (m : Int) := ⟨st3.toNat, by omega⟩
      rw [Int.toNat_natCast, Int.toNat_natCast, Int.toNat_natCast] at HN
      have hr12 : r < 1000000000000 := by omega
      have hq12 : q < 1000000000000 := by omega
      have hm12 : m < 1000000000000 := by omega
      have s1 := numS_size hr12
      have s2 := numS_size hq12
      have s3 := numS_size hm12
      obtain ⟨f1, f2, f3, f4, f5, f6, f7, f8⟩ := box_fits hcd s1 s2 s3 hsj (by omega)
      have hb0 : bo < wr.heap.size := by omega
      clear hcd hrow hcol hcnt s1 s2 s3
      go_wp2_with fail
      refine wp_region_noPanic ?_
      refine wp_region_held_drew (S := (fun w' => w'.cell? ⟨wr.heap.size, 0, none⟩ = some (.string cd) ∧ w'.cell? ⟨wr.heap.size, 1, none⟩ = some (.int .i64 (r : Int)) ∧ w'.cell? ⟨wr.heap.size, 2, none⟩ = some (.int .i64 (q : Int)) ∧ w'.cell? ⟨wr.heap.size, 3, none⟩ = some (.int .i64 (m : Int)))) (by kernel_rfl) (by (try dsimp only); go_keep) (fun hHeld => ?_)
      refine take_of (some 12) (i := 0) (v := ?vq1_0) rfl rfl (by kernel_rfl) (by kernel_rfl) (by kernel_rfl) (fun _ _ _ h => h) (Or.inl ⟨by rfl, ?hyq1_0⟩) (by assumption) ?restq1_0
      case hyq1_0 => (intro w hSw; (try dsimp only at hSw); go_simp; try with_reducible rfl)
      try simp only [Act.put, List.setIfInBounds_toArray, List.set_cons_zero, List.set_cons_succ]
      refine take_of (some 13) (i := 1) (v := ?vq1_1) rfl rfl (by kernel_rfl) (by kernel_rfl) (by kernel_rfl) (fun _ _ _ h => h) (Or.inl ⟨by rfl, ?hyq1_1⟩) (by assumption) ?restq1_1
      case hyq1_1 => (intro w hSw; (try dsimp only at hSw); go_simp; try with_reducible rfl)
      try simp only [Act.put, List.setIfInBounds_toArray, List.set_cons_zero, List.set_cons_succ]
      refine take_of (some 14) (i := 2) (v := ?vq1_2) rfl rfl (by kernel_rfl) (by kernel_rfl) (by kernel_rfl) (fun _ _ _ h => h) (Or.inl ⟨by rfl, ?hyq1_2⟩) (by assumption) ?restq1_2
      case hyq1_2 => (intro w hSw; (try dsimp only at hSw); go_simp; try with_reducible rfl)
      try simp only [Act.put, List.setIfInBounds_toArray, List.set_cons_zero, List.set_cons_succ]
      refine take_of (some 15) (i := 3) (v := ?vq1_3) rfl rfl (by kernel_rfl) (by kernel_rfl) (by kernel_rfl) (fun _ _ _ h => h) (Or.inl ⟨by rfl, ?hyq1_3⟩) (by assumption) ?restq1_3
      case hyq1_3 => (intro w hSw; (try dsimp only at hSw); go_simp; try with_reducible rfl)
      try simp only [Act.put, List.setIfInBounds_toArray, List.set_cons_zero, List.set_cons_succ]
      refine take_of (some 16) (i := 4) (v := ?vq1_4) rfl rfl (by kernel_rfl) (by kernel_rfl) (by kernel_rfl) (fun _ _ _ h => h) (Or.inl ⟨by rfl, ?hyq1_4⟩) (by assumption) ?restq1_4
      case hyq1_4 => (intro w hSw; (try dsimp only at hSw); go_simp; try with_reducible rfl)
      try simp only [Act.put, List.setIfInBounds_toArray, List.set_cons_zero, List.set_cons_succ]
      refine take_of (some 17) (i := 5) (v := ?vq1_5) rfl rfl (by kernel_rfl) (by kernel_rfl) (by kernel_rfl) (fun _ _ _ h => h) (Or.inl ⟨by rfl, ?hyq1_5⟩) (by assumption) ?restq1_5
      case hyq1_5 => (intro w hSw; (try dsimp only at hSw); go_simp; try with_reducible rfl)
      try simp only [Act.put, List.setIfInBounds_toArray, List.set_cons_zero, List.set_cons_succ]
      refine take_of (some 21) (i := 9) (v := ?vq1_9) rfl rfl (by kernel_rfl) (by kernel_rfl) (by kernel_rfl) (fun _ _ _ h => h) (Or.inl ⟨by rfl, ?hyq1_9⟩) (by assumption) ?restq1_9
      case hyq1_9 => (intro w hSw; (try dsimp only at hSw); go_simp; try with_reducible rfl)
      try simp only [Act.put, List.setIfInBounds_toArray, List.set_cons_zero, List.set_cons_succ]
      refine take_of (some 22) (i := 10) (v := ?vq1_10) rfl rfl (by kernel_rfl) (by kernel_rfl) (by kernel_rfl) (fun _ _ _ h => h) (Or.inl ⟨by rfl, ?hyq1_10⟩) (by assumption) ?restq1_10
      case hyq1_10 => (intro w hSw; (try dsimp only at hSw); go_simp; try with_reducible rfl)
      try simp only [Act.put, List.setIfInBounds_toArray, List.set_cons_zero, List.set_cons_succ]
      refine take_of (some 26) (i := 14) (v := ?vq1_14) rfl rfl (by kernel_rfl) (by kernel_rfl) (by kernel_rfl) (fun _ _ _ h => h) (Or.inl ⟨by rfl, ?hyq1_14⟩) (by assumption) ?restq1_14
      case hyq1_14 => (intro w hSw; (try dsimp only at hSw); go_simp; try with_reducible rfl)
      try simp only [Act.put, List.setIfInBounds_toArray, List.set_cons_zero, List.set_cons_succ]
      refine take_of (some 27) (i := 15) (v := ?vq1_15) rfl rfl (by kernel_rfl) (by kernel_rfl) (by kernel_rfl) (fun _ _ _ h => h) (Or.inl ⟨by rfl, ?hyq1_15⟩) (by assumption) ?restq1_15
      case hyq1_15 => (intro w hSw; (try dsimp only at hSw); go_simp; try with_reducible rfl)
      try simp only [Act.put, List.setIfInBounds_toArray, List.set_cons_zero, List.set_cons_succ]
      refine wpAnyH_ready (rs := [6]) (by kernel_rfl) (by simp) ?_
      refine AllReadyH.cons rfl (fun K hK => ?_) AllReadyH.nil
      go_simp
      (go_at_call 60; refine (l1Num_any r hr12 _).mono ?_; rintro e w3 ⟨rfl, hb⟩; have x0 : w3.cell? ⟨wr.heap.size, 0, none⟩ = some (.string cd) := (hb.cell (p := ⟨wr.heap.size, 0, none⟩) (by show wr.heap.size < _; simp)).trans (by simp); have x1 : w3.cell? ⟨wr.heap.size, 1, none⟩ = some (.int .i64 (r : Int)) := (hb.cell (p := ⟨wr.heap.size, 1, none⟩) (by show wr.heap.size < _; simp)).trans (by simp); have x2 : w3.cell? ⟨wr.heap.size, 2, none⟩ = some (.int .i64 (q : Int)) := (hb.cell (p := ⟨wr.heap.size, 2, none⟩) (by show wr.heap.size < _; simp)).trans (by simp); have x3 : w3.cell? ⟨wr.heap.size, 3, none⟩ = some (.int .i64 (m : Int)) := (hb.cell (p := ⟨wr.heap.size, 3, none⟩) (by show wr.heap.size < _; simp)).trans (by simp); have hz3 : wr.heap.size < w3.heap.size := (by have := hb.size; simp at this; omega); have HB3 := Lib.hid (bl_trans (bl_drew (bl_alloc BJ.out _)) hb); clear hb)
      go_wp2_with fail
      refine hK.out _ _ (by (try dsimp only); go_keep) (fun hHeld => ?_)
      clear hK K
      try simp only [Act.put, List.setIfInBounds_toArray, List.set_cons_zero, List.set_cons_succ]
      refine take_of (some 19) (i := 7) (v := ?vq1_7) rfl rfl (by kernel_rfl) (by kernel_rfl) (by kernel_rfl) (fun _ _ _ h => h) (Or.inl ⟨by rfl, ?hyq1_7⟩) (by assumption) ?restq1_7
      case hyq1_7 => (intro w hSw; (try dsimp only at hSw); go_simp; try with_reducible rfl)
      try simp only [Act.put, List.setIfInBounds_toArray, List.set_cons_zero, List.set_cons_succ]
      refine take_of (some 20) (i := 8) (v := ?vq1_8) rfl rfl (by kernel_rfl) (by kernel_rfl) (by kernel_rfl) (fun _ _ _ h => h) (Or.inl ⟨by rfl, ?hyq1_8⟩) (by assumption) ?restq1_8
      case hyq1_8 => (intro w hSw; (try dsimp only at hSw); go_simp; try with_reducible rfl)
      try simp only [Act.put, List.setIfInBounds_toArray, List.set_cons_zero, List.set_cons_succ]
      refine wpAnyH_ready (rs := [11]) (by kernel_rfl) (by simp) ?_
      refine AllReadyH.cons rfl (fun K hK => ?_) AllReadyH.nil
      go_simp
      (go_at_call 60; refine (l1Num_any q hq12 _).mono ?_; rintro e w4 ⟨rfl, hb⟩; have y0 : w4.cell? ⟨wr.heap.size, 0, none⟩ = some (.string cd) := (hb.cell (p := ⟨wr.heap.size, 0, none⟩) (by show wr.heap.size < _; omega)).trans x0; have y1 : w4.cell? ⟨wr.heap.size, 1, none⟩ = some (.int .i64 (r : Int)) := (hb.cell (p := ⟨wr.heap.size, 1, none⟩) (by show wr.heap.size < _; omega)).trans x1; have y2 : w4.cell? ⟨wr.heap.size, 2, none⟩ = some (.int .i64 (q : Int)) := (hb.cell (p := ⟨wr.heap.size, 2, none⟩) (by show wr.heap.size < _; omega)).trans x2; have y3 : w4.cell? ⟨wr.heap.size, 3, none⟩ = some (.int .i64 (m : Int)) := (hb.cell (p := ⟨wr.heap.size, 3, none⟩) (by show wr.heap.size < _; omega)).trans x3; have hz4 : wr.heap.size < w4.heap.size := (by have := hb.size; omega); have HB4 := Lib.hid (bl_trans HB3.out hb); clear hb)
      go_wp2_with fail
      refine hK.out _ _ (by (try dsimp only); go_keep) (fun hHeld => ?_)
      clear hK K
      try simp only [Act.put, List.setIfInBounds_toArray, List.set_cons_zero, List.set_cons_succ]
      refine take_of (some 24) (i := 12) (v := ?vq1_12) rfl rfl (by kernel_rfl) (by kernel_rfl) (by kernel_rfl) (fun _ _ _ h => h) (Or.inl ⟨by rfl, ?hyq1_12⟩) (by assumption) ?restq1_12
      case hyq1_12 => (intro w hSw; (try dsimp only at hSw); go_simp; try with_reducible rfl)
      try simp only [Act.put, List.setIfInBounds_toArray, List.set_cons_zero, List.set_cons_succ]
      refine take_of (some 25) (i := 13) (v := ?vq1_13) rfl rfl (by kernel_rfl) (by kernel_rfl) (by kernel_rfl) (fun _ _ _ h => h) (Or.inl ⟨by rfl, ?hyq1_13⟩) (by assumption) ?restq1_13
      case hyq1_13 => (intro w hSw; (try dsimp only at hSw); go_simp; try with_reducible rfl)
      try simp only [Act.put, List.setIfInBounds_toArray, List.set_cons_zero, List.set_cons_succ]
      refine wpAnyH_ready (rs := [16]) (by kernel_rfl) (by simp) ?_
      refine AllReadyH.cons rfl (fun K hK => ?_) AllReadyH.nil
      go_simp
      (go_at_call 60; refine (l1Num_any m hm12 _).mono ?_; rintro e w5 ⟨rfl, hb⟩; have z0 : w5.cell? ⟨wr.heap.size, 0, none⟩ = some (.string cd) := (hb.cell (p := ⟨wr.heap.size, 0, none⟩) (by show wr.heap.size < _; omega)).trans y0; have z1 : w5.cell? ⟨wr.heap.size, 1, none⟩ = some (.int .i64 (r : Int)) := (hb.cell (p := ⟨wr.heap.size, 1, none⟩) (by show wr.heap.size < _; omega)).trans y1; have z2 : w5.cell? ⟨wr.heap.size, 2, none⟩ = some (.int .i64 (q : Int)) := (hb.cell (p := ⟨wr.heap.size, 2, none⟩) (by show wr.heap.size < _; omega)).trans y2; have z3 : w5.cell? ⟨wr.heap.size, 3, none⟩ = some (.int .i64 (m : Int)) := (hb.cell (p := ⟨wr.heap.size, 3, none⟩) (by show wr.heap.size < _; omega)).trans y3; have HB5 := Lib.hid (bl_trans HB4.out hb); clear hb)
      go_wp2_with fail
      refine hK.out _ _ (by (try dsimp only); go_keep) (fun hHeld => ?_)
      clear hK K
      try simp only [Act.put, List.setIfInBounds_toArray, List.set_cons_zero, List.set_cons_succ]
      refine take_of (some 29) (i := 17) (v := ?vq1_17) rfl rfl (by kernel_rfl) (by kernel_rfl) (by kernel_rfl) (fun _ _ _ h => h) (Or.inl ⟨by rfl, ?hyq1_17⟩) (by assumption) ?restq1_17
      case hyq1_17 => (intro w hSw; (try dsimp only at hSw); go_simp; try with_reducible rfl)
      try simp only [Act.put, List.setIfInBounds_toArray, List.set_cons_zero, List.set_cons_succ]
      refine take_of (some 30) (i := 18) (v := ?vq1_18) rfl rfl (by kernel_rfl) (by kernel_rfl) (by kernel_rfl) (fun _ _ _ h => h) (Or.inl ⟨by rfl, ?hyq1_18⟩) (by assumption) ?restq1_18
      case hyq1_18 => (intro w hSw; (try dsimp only at hSw); go_simp; try with_reducible rfl)
      try simp only [Act.put, List.setIfInBounds_toArray, List.set_cons_zero, List.set_cons_succ]
      refine take_of (some 31) (i := 19) (v := ?vq1_19) rfl rfl (by kernel_rfl) (by kernel_rfl) (by kernel_rfl) (fun _ _ _ h => h) (Or.inl ⟨by rfl, ?hyq1_19⟩) (by assumption) ?restq1_19
      case hyq1_19 => (intro w hSw; (try dsimp only at hSw); go_simp; try with_reducible rfl)
      try simp only [Act.put, List.setIfInBounds_toArray, List.set_cons_zero, List.set_cons_succ]
      refine take_of (some 3) (i := 20) (v := ?vq1_20) rfl rfl (by kernel_rfl) (by kernel_rfl) (by kernel_rfl) (fun _ _ _ h => h) (Or.inl ⟨by rfl, ?hyq1_20⟩) (by assumption) ?restq1_20
      case hyq1_20 => (intro w hSw; (try dsimp only at hSw); go_simp; try with_reducible rfl)
      try simp only [Act.put, List.setIfInBounds_toArray, List.set_cons_zero, List.set_cons_succ]
      refine wpAnyH_done (by kernel_rfl) ?_ _
      refine NoPanic.normal ?_
      go_wp2
      go_roundw
      case rel => exact ⟨j + 1, by omega, by go_num, by rw [HN.out]; rfl, HB5.out⟩
      case measure => simp [intOf]; omega
    · obtain rfl : j = n := by omega
      go_wp2
      go_ret
      exact ⟨rfl, BJ.out⟩
def ctS (xs : List Box) : ByteArray := if caseB xs = true then cT xs xs.length else ⟨#[]⟩
theorem ctS_no {xs : List Box} (h : caseB xs = false) : ctS xs = ⟨#[]⟩ := by simp [ctS, h]
theorem ctS_yes {xs : List Box} (h : caseB xs = true) : ctS xs = cT xs xs.length := by simp [ctS, h]
set_option maxHeartbeats 2000000 in
theorem specCT_any (A : Option Addr) (n c B : Nat) (xs : List Box) (w : World) (hr : Rd cBox 4 w B A n xs) (hB : B ≤ w.heap.size) (hn : n ≤ 1048576) (hok : ∀ x ∈ xs, okBox x) (hcap : n ≤ c) :
    Calls Tryd.prog 22 #[.slice A n c] w (PairS (ctS xs) (caseB xs) w) := by
  have hl := hr.1
  have HR := Lib.hid hr
  have HF := Lib.hid (caGood_any A n c B xs w hr hB hn hok hcap)
  clear hr hok
  rcases h : caseB xs with _ | _
  · have HH := Lib.hid h
    have HE := Lib.hid (ctS_no h)
    clear h
    go_enter Tryd.func22, Tryd.ntmps22
    go_wp2_with (go_at_call 53; refine HF.out.mono ?_; rw [HH.out]; rintro e w1 ⟨rfl, hb⟩)
    go_ret2
    exact pair_s HE.out.symm rfl (by repeat (first | (with_reducible exact Below.refl _ _) | (with_reducible assumption) | (with_reducible refine bl_alloc ?_ _) | (with_reducible refine bl_drew ?_) | (with_reducible refine bl_drewN ?_ _) | ((with_reducible refine bl_set ?_ ?hb _); (case hb => first | (simp; done) | omega | (simp; omega))) | (with_reducible refine bl_trans ?_ (by assumption))))
  · have HH := Lib.hid h
    have HE := Lib.hid (ctS_yes h)
    clear h
    go_enter Tryd.func22, Tryd.ntmps22
    go_wp2_with fail
    refine HF.out.mono ?_
    rw [HH.out]
    rintro e w1 ⟨rfl, hb⟩
    have HB1 := Lib.hid hb
    clear hb
    go_wp2_with fail
    refine (caText_any A n c xs w1 ((HR.out.more hB).below HB1.out |>.more HB1.out.size) HH.out).mono ?_
    rintro e w2 ⟨rfl, hb⟩
    have HB2 := Lib.hid (bl_trans HB1.out hb)
    clear hb
    go_wp2
    go_ret2
    rw [HE.out, hl]
    exact ⟨rfl, HB2.out⟩
set_option maxHeartbeats 4000000 in
theorem implCT_any (A : Option Addr) (n c B : Nat) (xs : List Box) (w : World) (hr0 : Rd cBox 4 w B A n xs) (hB : B ≤ w.heap.size) (hn : n ≤ 1048576) (hok : ∀ x ∈ xs, okBox x) (hcap : n ≤ c) (hT : Lib.TabIs Tryd.prog w "internal/strconv.uint64pow10" .u64 Lib.pow10Tab) :
    Calls Tryd.prog 24 #[.slice A n c] w (PairS (ctS xs) (caseB xs) w) := by
  have hl := hr0.1
  have HR := Lib.hid (hr0.more hB)
  have HT := Lib.hid hT
  have HI := Lib.hid (implIsCase_any A n c B xs w hr0 hB hn hok hcap)
  clear hr0 hok hT
  rcases h : caseB xs with _ | _
  · have HH := Lib.hid h
    have HE := Lib.hid (ctS_no h)
    clear h
    go_enter Tryd.func24, Tryd.ntmps24
    go_wp2_with (go_at_call 56; refine HI.out.mono ?_; rw [HH.out]; rintro e w1 ⟨rfl, hb⟩)
    go_ret2
    exact pair_s HE.out.symm rfl (by repeat (first | (with_reducible exact Below.refl _ _) | (with_reducible assumption) | (with_reducible refine bl_alloc ?_ _) | (with_reducible refine bl_drew ?_) | (with_reducible refine bl_drewN ?_ _) | ((with_reducible refine bl_set ?_ ?hb _); (case hb => first | (simp; done) | omega | (simp; omega))) | (with_reducible refine bl_trans ?_ (by assumption))))
  · have HF := Lib.hid h
    have HE := Lib.hid (ctS_yes h)
    have hlen := case_len h
    have HSZ := Lib.hid (cT_size h)
    clear h
    go_enter Tryd.func24, Tryd.ntmps24
    go_wp2_with fail
    refine HI.out.mono ?_
    rw [HF.out]
    rintro e w1 ⟨rfl, hb1⟩
    have HB1 := Lib.hid hb1
    have hs1 := hb1.size
    clear hb1
    go_wp2_with fail
    go_loopw [4, 12] (fun s i wr => ∃ j : Nat, j ≤ n ∧ i = .int .i64 j ∧ s = .string (cT xs j) ∧ Below w.heap.size w wr) (fun _ i _ => n - (intOf i).toNat)
    case atStart => exact ⟨0, Nat.zero_le _, rfl, rfl, HB1.out⟩
    case round =>
      obtain ⟨j, hj, rfl, rfl, hbj⟩ := hrel
      have BJ := Lib.hid hbj
      have hsz := hbj.size
      have hsj := HSZ.out j
      by_cases hlt : j < n
      · obtain ⟨bo, offo, x, rfl, hbB, hik, hc0, hc1, hc2, hc3⟩ := (HR.out.below hbj).atBox hlt
        have hs := (case_each HF.out hik).1
        obtain ⟨hcd, hrow, hcol, hcnt⟩ := box_small hs
        have HN := Lib.hid (cT_snoc hik)
        clear hik hs hbj
        obtain ⟨cd, st1, st2, st3⟩ := x
        dsimp only at hc0 hc1 hc2 hc3 hcd hrow hcol hcnt HN
        obtain ⟨r, rfl⟩ : ∃ m : Nat, st1 = (m : Int) := ⟨st1.toNat, by omega⟩
        obtain ⟨q, rfl⟩ : ∃ m : Nat, st2 = (m : Int) := ⟨st2.toNat, by omega⟩
        obtain ⟨m, rfl⟩ : ∃ m : Nat, st3 = (m : Int) := ⟨st3.toNat, by omega⟩
        rw [Int.toNat_natCast, Int.toNat_natCast, Int.toNat_natCast] at HN
        have hr12 : r < 1000000000000 := by omega
        have hq12 : q < 1000000000000 := by omega
        have hm12 : m < 1000000000000 := by omega
        have s1 := numS_size hr12
        have s2 := numS_size hq12
        have s3 := numS_size hm12
        obtain ⟨f1, f2, f3, f4, f5, f6, f7, f8⟩ := box_fits hcd s1 s2 s3 hsj (by omega)
        have hb0 : bo < wr.heap.size := by omega
        clear hcd hrow hcol hcnt s1 s2 s3
        go_wp2_with fail
        refine wp_region_noPanic ?_
        refine wp_region_held_drew (S := (fun w' => w'.cell? ⟨wr.heap.size, 0, none⟩ = some (.string cd) ∧ w'.cell? ⟨wr.heap.size, 1, none⟩ = some (.int .i64 (r : Int)) ∧ w'.cell? ⟨wr.heap.size, 2, none⟩ = some (.int .i64 (q : Int)) ∧ w'.cell? ⟨wr.heap.size, 3, none⟩ = some (.int .i64 (m : Int)))) (by kernel_rfl) (by (try dsimp only); go_keep) (fun hHeld => ?_)
        refine take_of (some 16) (i := 0) (v := ?vq2_0) rfl rfl (by kernel_rfl) (by kernel_rfl) (by kernel_rfl) (fun _ _ _ h => h) (Or.inl ⟨by rfl, ?hyq2_0⟩) (by assumption) ?restq2_0
        case hyq2_0 => (intro w hSw; (try dsimp only at hSw); go_simp; try with_reducible rfl)
        try simp only [Act.put, List.setIfInBounds_toArray, List.set_cons_zero, List.set_cons_succ]
        refine take_of (some 17) (i := 1) (v := ?vq2_1) rfl rfl (by kernel_rfl) (by kernel_rfl) (by kernel_rfl) (fun _ _ _ h => h) (Or.inl ⟨by rfl, ?hyq2_1⟩) (by assumption) ?restq2_1
        case hyq2_1 => (intro w hSw; (try dsimp only at hSw); go_simp; try with_reducible rfl)
        try simp only [Act.put, List.setIfInBounds_toArray, List.set_cons_zero, List.set_cons_succ]
        refine take_of (some 18) (i := 2) (v := ?vq2_2) rfl rfl (by kernel_rfl) (by kernel_rfl) (by kernel_rfl) (fun _ _ _ h => h) (Or.inl ⟨by rfl, ?hyq2_2⟩) (by assumption) ?restq2_2
        case hyq2_2 => (intro w hSw; (try dsimp only at hSw); go_simp; try with_reducible rfl)
        try simp only [Act.put, List.setIfInBounds_toArray, List.set_cons_zero, List.set_cons_succ]
        refine take_of (some 19) (i := 3) (v := ?vq2_3) rfl rfl (by kernel_rfl) (by kernel_rfl) (by kernel_rfl) (fun _ _ _ h => h) (Or.inl ⟨by rfl, ?hyq2_3⟩) (by assumption) ?restq2_3
        case hyq2_3 => (intro w hSw; (try dsimp only at hSw); go_simp; try with_reducible rfl)
        try simp only [Act.put, List.setIfInBounds_toArray, List.set_cons_zero, List.set_cons_succ]
        refine take_of (some 20) (i := 4) (v := ?vq2_4) rfl rfl (by kernel_rfl) (by kernel_rfl) (by kernel_rfl) (fun _ _ _ h => h) (Or.inl ⟨by rfl, ?hyq2_4⟩) (by assumption) ?restq2_4
        case hyq2_4 => (intro w hSw; (try dsimp only at hSw); go_simp; try with_reducible rfl)
        try simp only [Act.put, List.setIfInBounds_toArray, List.set_cons_zero, List.set_cons_succ]
        refine take_of (some 21) (i := 5) (v := ?vq2_5) rfl rfl (by kernel_rfl) (by kernel_rfl) (by kernel_rfl) (fun _ _ _ h => h) (Or.inl ⟨by rfl, ?hyq2_5⟩) (by assumption) ?restq2_5
        case hyq2_5 => (intro w hSw; (try dsimp only at hSw); go_simp; try with_reducible rfl)
        try simp only [Act.put, List.setIfInBounds_toArray, List.set_cons_zero, List.set_cons_succ]
        refine take_of (some 25) (i := 9) (v := ?vq2_9) rfl rfl (by kernel_rfl) (by kernel_rfl) (by kernel_rfl) (fun _ _ _ h => h) (Or.inl ⟨by rfl, ?hyq2_9⟩) (by assumption) ?restq2_9
        case hyq2_9 => (intro w hSw; (try dsimp only at hSw); go_simp; try with_reducible rfl)
        try simp only [Act.put, List.setIfInBounds_toArray, List.set_cons_zero, List.set_cons_succ]
        refine take_of (some 26) (i := 10) (v := ?vq2_10) rfl rfl (by kernel_rfl) (by kernel_rfl) (by kernel_rfl) (fun _ _ _ h => h) (Or.inl ⟨by rfl, ?hyq2_10⟩) (by assumption) ?restq2_10
        case hyq2_10 => (intro w hSw; (try dsimp only at hSw); go_simp; try with_reducible rfl)
        try simp only [Act.put, List.setIfInBounds_toArray, List.set_cons_zero, List.set_cons_succ]
        refine take_of (some 30) (i := 14) (v := ?vq2_14) rfl rfl (by kernel_rfl) (by kernel_rfl) (by kernel_rfl) (fun _ _ _ h => h) (Or.inl ⟨by rfl, ?hyq2_14⟩) (by assumption) ?restq2_14
        case hyq2_14 => (intro w hSw; (try dsimp only at hSw); go_simp; try with_reducible rfl)
        try simp only [Act.put, List.setIfInBounds_toArray, List.set_cons_zero, List.set_cons_succ]
        refine take_of (some 31) (i := 15) (v := ?vq2_15) rfl rfl (by kernel_rfl) (by kernel_rfl) (by kernel_rfl) (fun _ _ _ h => h) (Or.inl ⟨by rfl, ?hyq2_15⟩) (by assumption) ?restq2_15
        case hyq2_15 => (intro w hSw; (try dsimp only at hSw); go_simp; try with_reducible rfl)
        try simp only [Act.put, List.setIfInBounds_toArray, List.set_cons_zero, List.set_cons_succ]
        refine wpAnyH_ready (rs := [6]) (by kernel_rfl) (by simp) ?_
        refine AllReadyH.cons rfl (fun K hK => ?_) AllReadyH.nil
        go_simp
        (go_at_call 57; refine (itoa_any r hr12 _ (tab_below HT.out (bl_drew (bl_alloc BJ.out _)))).mono ?_; rintro e w3 ⟨rfl, hb⟩; have x0 : w3.cell? ⟨wr.heap.size, 0, none⟩ = some (.string cd) := (hb.cell (p := ⟨wr.heap.size, 0, none⟩) (by show wr.heap.size < _; simp)).trans (by simp); have x1 : w3.cell? ⟨wr.heap.size, 1, none⟩ = some (.int .i64 (r : Int)) := (hb.cell (p := ⟨wr.heap.size, 1, none⟩) (by show wr.heap.size < _; simp)).trans (by simp); have x2 : w3.cell? ⟨wr.heap.size, 2, none⟩ = some (.int .i64 (q : Int)) := (hb.cell (p := ⟨wr.heap.size, 2, none⟩) (by show wr.heap.size < _; simp)).trans (by simp); have x3 : w3.cell? ⟨wr.heap.size, 3, none⟩ = some (.int .i64 (m : Int)) := (hb.cell (p := ⟨wr.heap.size, 3, none⟩) (by show wr.heap.size < _; simp)).trans (by simp); have hz3 : wr.heap.size < w3.heap.size := (by have := hb.size; simp at this; omega); have HB3 := Lib.hid (bl_trans (bl_drew (bl_alloc BJ.out _)) hb); clear hb)
        go_wp2_with fail
        refine hK.out _ _ (by (try dsimp only); go_keep) (fun hHeld => ?_)
        clear hK K
        try simp only [Act.put, List.setIfInBounds_toArray, List.set_cons_zero, List.set_cons_succ]
        refine take_of (some 23) (i := 7) (v := ?vq2_7) rfl rfl (by kernel_rfl) (by kernel_rfl) (by kernel_rfl) (fun _ _ _ h => h) (Or.inl ⟨by rfl, ?hyq2_7⟩) (by assumption) ?restq2_7
        case hyq2_7 => (intro w hSw; (try dsimp only at hSw); go_simp; try with_reducible rfl)
        try simp only [Act.put, List.setIfInBounds_toArray, List.set_cons_zero, List.set_cons_succ]
        refine take_of (some 24) (i := 8) (v := ?vq2_8) rfl rfl (by kernel_rfl) (by kernel_rfl) (by kernel_rfl) (fun _ _ _ h => h) (Or.inl ⟨by rfl, ?hyq2_8⟩) (by assumption) ?restq2_8
        case hyq2_8 => (intro w hSw; (try dsimp only at hSw); go_simp; try with_reducible rfl)
        try simp only [Act.put, List.setIfInBounds_toArray, List.set_cons_zero, List.set_cons_succ]
        refine wpAnyH_ready (rs := [11]) (by kernel_rfl) (by simp) ?_
        refine AllReadyH.cons rfl (fun K hK => ?_) AllReadyH.nil
        go_simp
        (go_at_call 57; refine (itoa_any q hq12 _ (tab_below HT.out HB3.out)).mono ?_; rintro e w4 ⟨rfl, hb⟩; have y0 : w4.cell? ⟨wr.heap.size, 0, none⟩ = some (.string cd) := (hb.cell (p := ⟨wr.heap.size, 0, none⟩) (by show wr.heap.size < _; omega)).trans x0; have y1 : w4.cell? ⟨wr.heap.size, 1, none⟩ = some (.int .i64 (r : Int)) := (hb.cell (p := ⟨wr.heap.size, 1, none⟩) (by show wr.heap.size < _; omega)).trans x1; have y2 : w4.cell? ⟨wr.heap.size, 2, none⟩ = some (.int .i64 (q : Int)) := (hb.cell (p := ⟨wr.heap.size, 2, none⟩) (by show wr.heap.size < _; omega)).trans x2; have y3 : w4.cell? ⟨wr.heap.size, 3, none⟩ = some (.int .i64 (m : Int)) := (hb.cell (p := ⟨wr.heap.size, 3, none⟩) (by show wr.heap.size < _; omega)).trans x3; have hz4 : wr.heap.size < w4.heap.size := (by have := hb.size; omega); have HB4 := Lib.hid (bl_trans HB3.out hb); clear hb)
        go_wp2_with fail
        refine hK.out _ _ (by (try dsimp only); go_keep) (fun hHeld => ?_)
        clear hK K
        try simp only [Act.put, List.setIfInBounds_toArray, List.set_cons_zero, List.set_cons_succ]
        refine take_of (some 28) (i := 12) (v := ?vq2_12) rfl rfl (by kernel_rfl) (by kernel_rfl) (by kernel_rfl) (fun _ _ _ h => h) (Or.inl ⟨by rfl, ?hyq2_12⟩) (by assumption) ?restq2_12
        case hyq2_12 => (intro w hSw; (try dsimp only at hSw); go_simp; try with_reducible rfl)
        try simp only [Act.put, List.setIfInBounds_toArray, List.set_cons_zero, List.set_cons_succ]
        refine take_of (some 29) (i := 13) (v := ?vq2_13) rfl rfl (by kernel_rfl) (by kernel_rfl) (by kernel_rfl) (fun _ _ _ h => h) (Or.inl ⟨by rfl, ?hyq2_13⟩) (by assumption) ?restq2_13
        case hyq2_13 => (intro w hSw; (try dsimp only at hSw); go_simp; try with_reducible rfl)
        try simp only [Act.put, List.setIfInBounds_toArray, List.set_cons_zero, List.set_cons_succ]
        refine wpAnyH_ready (rs := [16]) (by kernel_rfl) (by simp) ?_
        refine AllReadyH.cons rfl (fun K hK => ?_) AllReadyH.nil
        go_simp
        (go_at_call 57; refine (itoa_any m hm12 _ (tab_below HT.out HB4.out)).mono ?_; rintro e w5 ⟨rfl, hb⟩; have z0 : w5.cell? ⟨wr.heap.size, 0, none⟩ = some (.string cd) := (hb.cell (p := ⟨wr.heap.size, 0, none⟩) (by show wr.heap.size < _; omega)).trans y0; have z1 : w5.cell? ⟨wr.heap.size, 1, none⟩ = some (.int .i64 (r : Int)) := (hb.cell (p := ⟨wr.heap.size, 1, none⟩) (by show wr.heap.size < _; omega)).trans y1; have z2 : w5.cell? ⟨wr.heap.size, 2, none⟩ = some (.int .i64 (q : Int)) := (hb.cell (p := ⟨wr.heap.size, 2, none⟩) (by show wr.heap.size < _; omega)).trans y2; have z3 : w5.cell? ⟨wr.heap.size, 3, none⟩ = some (.int .i64 (m : Int)) := (hb.cell (p := ⟨wr.heap.size, 3, none⟩) (by show wr.heap.size < _; omega)).trans y3; have HB5 := Lib.hid (bl_trans HB4.out hb); clear hb)
        go_wp2_with fail
        refine hK.out _ _ (by (try dsimp only); go_keep) (fun hHeld => ?_)
        clear hK K
        try simp only [Act.put, List.setIfInBounds_toArray, List.set_cons_zero, List.set_cons_succ]
        refine take_of (some 33) (i := 17) (v := ?vq2_17) rfl rfl (by kernel_rfl) (by kernel_rfl) (by kernel_rfl) (fun _ _ _ h => h) (Or.inl ⟨by rfl, ?hyq2_17⟩) (by assumption) ?restq2_17
        case hyq2_17 => (intro w hSw; (try dsimp only at hSw); go_simp; try with_reducible rfl)
        try simp only [Act.put, List.setIfInBounds_toArray, List.set_cons_zero, List.set_cons_succ]
        refine take_of (some 34) (i := 18) (v := ?vq2_18) rfl rfl (by kernel_rfl) (by kernel_rfl) (by kernel_rfl) (fun _ _ _ h => h) (Or.inl ⟨by rfl, ?hyq2_18⟩) (by assumption) ?restq2_18
        case hyq2_18 => (intro w hSw; (try dsimp only at hSw); go_simp; try with_reducible rfl)
        try simp only [Act.put, List.setIfInBounds_toArray, List.set_cons_zero, List.set_cons_succ]
        refine take_of (some 35) (i := 19) (v := ?vq2_19) rfl rfl (by kernel_rfl) (by kernel_rfl) (by kernel_rfl) (fun _ _ _ h => h) (Or.inl ⟨by rfl, ?hyq2_19⟩) (by assumption) ?restq2_19
        case hyq2_19 => (intro w hSw; (try dsimp only at hSw); go_simp; try with_reducible rfl)
        try simp only [Act.put, List.setIfInBounds_toArray, List.set_cons_zero, List.set_cons_succ]
        refine take_of (some 4) (i := 20) (v := ?vq2_20) rfl rfl (by kernel_rfl) (by kernel_rfl) (by kernel_rfl) (fun _ _ _ h => h) (Or.inl ⟨by rfl, ?hyq2_20⟩) (by assumption) ?restq2_20
        case hyq2_20 => (intro w hSw; (try dsimp only at hSw); go_simp; try with_reducible rfl)
        try simp only [Act.put, List.setIfInBounds_toArray, List.set_cons_zero, List.set_cons_succ]
        refine wpAnyH_done (by kernel_rfl) ?_ _
        refine NoPanic.normal ?_
        go_wp2
        go_roundw
        case rel => exact ⟨j + 1, by omega, by go_num, by rw [HN.out]; rfl, HB5.out⟩
        case measure => simp [intOf]; omega
      · obtain rfl : j = n := by omega
        go_wp2
        go_ret2
        rw [HE.out, hl]
        exact ⟨rfl, BJ.out⟩
set_option maxHeartbeats 4000000 in
theorem lawCaseText (A : Option Addr) (n c : Nat) (xs : List Box) (w : World) (hr : Rd cBox 4 w w.heap.size A n xs) (hn : n ≤ maxLen) (hok : ∀ x ∈ xs, okBox x) (hT : Lib.TabIs Tryd.prog w "internal/strconv.uint64pow10" .u64 Lib.pow10Tab) : Calls Tryd.prog 6 #[.slice A n c] w fun e w' => e = .returned (.bool (true)) ∧ Below w.heap.size w w' := by
  have HTT := Lib.hid hT
  have H1 := Lib.hid (fun A1 W hr hn => specCT_any A1 n n _ xs W hr (Nat.le_refl _) hn hok (Nat.le_refl _))
  have H2 := Lib.hid (fun A1 W hr hn ht => implCT_any A1 n n _ xs W hr (Nat.le_refl _) hn hok (Nat.le_refl _) ht)
  obtain ⟨s, hs⟩ : ∃ s, ctS xs = s := ⟨_, rfl⟩
  obtain ⟨v, hv⟩ : ∃ v, caseB xs = v := ⟨_, rfl⟩
  rw [hs, hv] at H1 H2
  clear hT hs hv
  rcases v with _ | _
  · skip
    have hn' := hn
    unfold maxLen at hn'
    have HN := Lib.hid hn
    have HOK := Lib.hid hok
    have HS := Lib.hid (szBoxS_any A n c _ xs 1048576 w hr (Nat.le_refl _) hn hok (by omega) (by omega))
    clear hn hok
    go_enter Tryd.func6, Tryd.ntmps6
    go_wp2_with fail
    refine HS.out.mono ?_
    rintro e w0 ⟨r, rfl, hsz, hb0⟩
    have HSZ := Lib.hid hsz
    have HB0 := Lib.hid hb0
    clear hsz hb0
    by_cases hneg : r < 0
    · go_wp2_with fail
      go_ret
      exact ⟨rfl, HB0.out⟩
    have hn2 : n ≤ 1048576 := by
      rcases HSZ.out with h | h <;> omega
    have HT := Lib.hid (fun (W : World) (h : Below w.heap.size w W) => toBoxS_cap A n c _ xs W (hr.below h) h.size hn2)
    go_wp2_with fail
    refine (HT.out _ HB0.out).mono ?_
    rintro e w1 ⟨A1, rfl, h1, hb⟩
    have HB1 := Lib.hid (bl_trans HB0.out hb)
    clear hb
    go_wp2_with fail
    refine (H1.out _ _ h1.rd hn2).mono ?_
    rintro e w2 ⟨rfl, hb⟩
    have HB2 := Lib.hid (bl_trans HB1.out hb)
    clear hb
    go_wp2_with fail
    refine (HT.out _ HB2.out).mono ?_
    rintro e w3 ⟨A3, rfl, h3, hb⟩
    have HB3 := Lib.hid (bl_trans HB2.out hb)
    clear hb
    go_wp2_with fail
    refine (H2.out _ _ h3.rd hn2 (tab_below HTT.out HB3.out)).mono ?_
    rintro e w4 ⟨rfl, hb⟩
    have HB4 := Lib.hid (bl_trans HB3.out hb)
    have H34 := Lib.hid (h3.below hb)
    clear hb h3
    go_wp2_with fail
    refine (HT.out _ HB4.out).mono ?_
    rintro e w5 ⟨A5, rfl, h5, hb⟩
    have HB5 := Lib.hid (bl_trans HB4.out hb)
    have H35 := Lib.hid (H34.out.below hb)
    clear hb
    go_wp2_with fail
    refine (eqBoxS_same _ _ _ _ _ _ _ xs _ H35.out.rd h5.rd (Nat.le_refl _) (Nat.le_refl _) HN.out).mono ?_
    rintro e w6 ⟨rfl, hb6⟩
    go_wp2
    go_ret
    exact ⟨rfl, bl_trans HB5.out hb6⟩
  · skip
    have hn' := hn
    unfold maxLen at hn'
    have HN := Lib.hid hn
    have HOK := Lib.hid hok
    have HS := Lib.hid (szBoxS_any A n c _ xs 1048576 w hr (Nat.le_refl _) hn hok (by omega) (by omega))
    clear hn hok
    go_enter Tryd.func6, Tryd.ntmps6
    go_wp2_with fail
    refine HS.out.mono ?_
    rintro e w0 ⟨r, rfl, hsz, hb0⟩
    have HSZ := Lib.hid hsz
    have HB0 := Lib.hid hb0
    clear hsz hb0
    by_cases hneg : r < 0
    · go_wp2_with fail
      go_ret
      exact ⟨rfl, HB0.out⟩
    have hn2 : n ≤ 1048576 := by
      rcases HSZ.out with h | h <;> omega
    have HT := Lib.hid (fun (W : World) (h : Below w.heap.size w W) => toBoxS_cap A n c _ xs W (hr.below h) h.size hn2)
    go_wp2_with fail
    refine (HT.out _ HB0.out).mono ?_
    rintro e w1 ⟨A1, rfl, h1, hb⟩
    have HB1 := Lib.hid (bl_trans HB0.out hb)
    clear hb
    go_wp2_with fail
    refine (H1.out _ _ h1.rd hn2).mono ?_
    rintro e w2 ⟨rfl, hb⟩
    have HB2 := Lib.hid (bl_trans HB1.out hb)
    clear hb
    go_wp2_with fail
    refine (HT.out _ HB2.out).mono ?_
    rintro e w3 ⟨A3, rfl, h3, hb⟩
    have HB3 := Lib.hid (bl_trans HB2.out hb)
    clear hb
    go_wp2_with fail
    refine (H2.out _ _ h3.rd hn2 (tab_below HTT.out HB3.out)).mono ?_
    rintro e w4 ⟨rfl, hb⟩
    have HB4 := Lib.hid (bl_trans HB3.out hb)
    have H34 := Lib.hid (h3.below hb)
    clear hb h3
    go_wp2_with fail
    refine (HT.out _ HB4.out).mono ?_
    rintro e w5 ⟨A5, rfl, h5, hb⟩
    have HB5 := Lib.hid (bl_trans HB4.out hb)
    have H35 := Lib.hid (H34.out.below hb)
    clear hb
    go_wp2_with fail
    refine (eqBoxS_same _ _ _ _ _ _ _ xs _ H35.out.rd h5.rd (Nat.le_refl _) (Nat.le_refl _) HN.out).mono ?_
    rintro e w6 ⟨rfl, hb6⟩
    go_wp2
    go_ret
    exact ⟨rfl, bl_trans HB5.out hb6⟩
end Go.Proofs.YtgfobchpkjpiiaaDoor
