/-
  The text of a font: contracts and the law's walk.
-/
import Derived.Test.YtgfobchpkjpiiaaDoorTxt3
import Derived.Test.YtgfobchpkjpiiaaDoorStck
namespace Go.Proofs.YtgfobchpkjpiiaaDoor
open Go.RowKit
set_option linter.unusedVariables false
attribute [local go_sem ↓] Go.wp_at_zero Go.wp_at_succ
attribute [local go_sem high] run_cat

theorem sort_code {x : Srt} (h : sortB x = true) : x.code.size ≤ 3 := by
  unfold sortB lettersB at h
  simp only [Bool.and_eq_true] at h
  have := inB_iff.1 h.1.2
  omega
def fT (xs : List Srt) : Nat → ByteArray
  | 0 => ⟨#[]⟩
  | k + 1 => match xs[k]? with
    | some x => catS (fT xs k) (catS (catS x.code (numS x.set.toNat)) ⟨#[59]⟩)
    | none => fT xs k
theorem fT_snoc {xs : List Srt} {k : Nat} {x : Srt} (h : xs[k]? = some x) : fT xs (k + 1) = catS (fT xs k) (catS (catS x.code (numS x.set.toNat)) ⟨#[59]⟩) := by rw [fT, h]
theorem fT_size {xs : List Srt} (hf : fontB xs = true) : ∀ k, (fT xs k).size ≤ 16 * k
  | 0 => by show (0 : Nat) ≤ _; omega
  | k + 1 => by
    have ih := fT_size hf k
    rcases h : xs[k]? with _ | x
    · rw [fT, h]; show (fT xs k).size ≤ _; omega
    · have hs := font_each hf h
      have h1 := sort_code hs
      have h2 := numS_size (n := x.set.toNat) (by have := sort_set hs; omega)
      have h3 : (⟨#[59]⟩ : ByteArray).size = 1 := rfl
      rw [fT_snoc h, catS_size, catS_size, catS_size, h3]; omega
set_option maxHeartbeats 2000000 in
theorem tyText_any (A : Option Addr) (n c : Nat) (xs : List Srt) (w : World) (hr : Rd cSrt 2 w w.heap.size A n xs) (hf : fontB xs = true) (hT : Lib.TabIs Tryd.prog w "internal/strconv.uint64pow10" .u64 Lib.pow10Tab) :
    Calls Tryd.prog 47 #[.slice A n c] w fun e w' => e = .returned (.string (fT xs n)) ∧ Below w.heap.size w w' := by
  have hl := hr.1
  have hlen := font_len hf
  have HR := Lib.hid hr
  have HF := Lib.hid hf
  have HT := Lib.hid hT
  have HSZ := Lib.hid (fT_size hf)
  clear hr hf hT
  go_enter Tryd.func47, Tryd.ntmps47
  go_wp2
  go_loopw [3, 8] (fun s i wr => ∃ j : Nat, j ≤ n ∧ i = .int .i64 j ∧ s = .string (fT xs j) ∧ Below w.heap.size w wr) (fun _ i _ => n - (intOf i).toNat)
  case atStart => exact ⟨0, Nat.zero_le _, rfl, rfl, Below.refl _ _⟩
  case round =>
    obtain ⟨j, hj, rfl, rfl, hbj⟩ := hrel
    have BJ := Lib.hid hbj
    have hsz := hbj.size
    have hsj := HSZ.out j
    by_cases hlt : j < n
    · obtain ⟨bo, offo, x, rfl, hbB, hik, hc0, hc1⟩ := (HR.out.below hbj).atSrt hlt
      have hs := font_each HF.out hik
      have hcd := sort_code hs
      have hset := sort_set hs
      have HN := Lib.hid (fT_snoc hik)
      clear hik hs hbj
      obtain ⟨cd, st⟩ := x
      dsimp only at hc0 hc1 hcd hset HN
      obtain ⟨m, rfl⟩ : ∃ m : Nat, st = (m : Int) := ⟨st.toNat, by omega⟩
      rw [Int.toNat_natCast] at HN
      have hm12 : m < 1000000000000 := by omega
      have hsm := numS_size hm12
      have h59 : (⟨#[59]⟩ : ByteArray).size ≤ 1 := by decide
      have f1 : Fit cd (numS m) := fit_of hcd hsm (by omega)
      have f2 : Fit (catS cd (numS m)) ⟨#[59]⟩ := fit_of (p := 15) (by rw [catS_size]; omega) h59 (by omega)
      have f3 : Fit (fT xs j) (catS (catS cd (numS m)) ⟨#[59]⟩) := fit_of (q := 16) hsj (by rw [catS_size, catS_size]; omega) (by omega)
      have hb0 : bo < wr.heap.size := by omega
      clear hcd hset hsm h59
      go_wp2_with fail
      refine wp_region_noPanic ?_
      refine wp_region_held_drew (S := (fun w' => w'.cell? ⟨wr.heap.size, 0, none⟩ = some (.string cd) ∧ w'.cell? ⟨wr.heap.size, 1, none⟩ = some (.int .i64 (m : Int)))) (by kernel_rfl) (by (try dsimp only); go_keep) (fun hHeld => ?_)
      refine take_of (some 12) (i := 0) (v := ?vq1_0) rfl rfl (by kernel_rfl) (by kernel_rfl) (by kernel_rfl) (fun _ _ _ h => h) (Or.inl ⟨by rfl, ?hyq1_0⟩) (by assumption) ?restq1_0
      case hyq1_0 => (intro w hSw; (try dsimp only at hSw); go_simp; try with_reducible rfl)
      try simp only [Act.put, List.setIfInBounds_toArray, List.set_cons_zero, List.set_cons_succ]
      refine take_of (some 13) (i := 1) (v := ?vq1_1) rfl rfl (by kernel_rfl) (by kernel_rfl) (by kernel_rfl) (fun _ _ _ h => h) (Or.inl ⟨by rfl, ?hyq1_1⟩) (by assumption) ?restq1_1
      case hyq1_1 => (intro w hSw; (try dsimp only at hSw); go_simp; try with_reducible rfl)
      try simp only [Act.put, List.setIfInBounds_toArray, List.set_cons_zero, List.set_cons_succ]
      refine take_of (some 14) (i := 2) (v := ?vq1_2) rfl rfl (by kernel_rfl) (by kernel_rfl) (by kernel_rfl) (fun _ _ _ h => h) (Or.inl ⟨by rfl, ?hyq1_2⟩) (by assumption) ?restq1_2
      case hyq1_2 => (intro w hSw; (try dsimp only at hSw); go_simp; try with_reducible rfl)
      try simp only [Act.put, List.setIfInBounds_toArray, List.set_cons_zero, List.set_cons_succ]
      refine take_of (some 15) (i := 3) (v := ?vq1_3) rfl rfl (by kernel_rfl) (by kernel_rfl) (by kernel_rfl) (fun _ _ _ h => h) (Or.inl ⟨by rfl, ?hyq1_3⟩) (by assumption) ?restq1_3
      case hyq1_3 => (intro w hSw; (try dsimp only at hSw); go_simp; try with_reducible rfl)
      try simp only [Act.put, List.setIfInBounds_toArray, List.set_cons_zero, List.set_cons_succ]
      refine take_of (some 16) (i := 4) (v := ?vq1_4) rfl rfl (by kernel_rfl) (by kernel_rfl) (by kernel_rfl) (fun _ _ _ h => h) (Or.inl ⟨by rfl, ?hyq1_4⟩) (by assumption) ?restq1_4
      case hyq1_4 => (intro w hSw; (try dsimp only at hSw); go_simp; try with_reducible rfl)
      try simp only [Act.put, List.setIfInBounds_toArray, List.set_cons_zero, List.set_cons_succ]
      refine wpAnyH_ready (rs := [5]) (by kernel_rfl) (by simp) ?_
      refine AllReadyH.cons rfl (fun K hK => ?_) AllReadyH.nil
      go_simp
      (go_at_call 60; refine (l1Num_any m hm12 _).mono ?_; rintro e w3 ⟨rfl, hb⟩; have x0 : w3.cell? ⟨wr.heap.size, 0, none⟩ = some (.string cd) := (hb.cell (p := ⟨wr.heap.size, 0, none⟩) (by show wr.heap.size < _; simp)).trans (by simp); have x1 : w3.cell? ⟨wr.heap.size, 1, none⟩ = some (.int .i64 (m : Int)) := (hb.cell (p := ⟨wr.heap.size, 1, none⟩) (by show wr.heap.size < _; simp)).trans (by simp); have HB3 := Lib.hid (bl_trans (bl_drew (bl_alloc BJ.out _)) hb); clear hb)
      go_wp2_with fail
      refine hK.out _ _ (by (try dsimp only); go_keep) (fun hHeld => ?_)
      clear hK K
      try simp only [Act.put, List.setIfInBounds_toArray, List.set_cons_zero, List.set_cons_succ]
      refine take_of (some 18) (i := 6) (v := ?vq1_6) rfl rfl (by kernel_rfl) (by kernel_rfl) (by kernel_rfl) (fun _ _ _ h => h) (Or.inl ⟨by rfl, ?hyq1_6⟩) (by assumption) ?restq1_6
      case hyq1_6 => (intro w hSw; (try dsimp only at hSw); go_simp; try with_reducible rfl)
      try simp only [Act.put, List.setIfInBounds_toArray, List.set_cons_zero, List.set_cons_succ]
      refine take_of (some 19) (i := 7) (v := ?vq1_7) rfl rfl (by kernel_rfl) (by kernel_rfl) (by kernel_rfl) (fun _ _ _ h => h) (Or.inl ⟨by rfl, ?hyq1_7⟩) (by assumption) ?restq1_7
      case hyq1_7 => (intro w hSw; (try dsimp only at hSw); go_simp; try with_reducible rfl)
      try simp only [Act.put, List.setIfInBounds_toArray, List.set_cons_zero, List.set_cons_succ]
      refine take_of (some 20) (i := 8) (v := ?vq1_8) rfl rfl (by kernel_rfl) (by kernel_rfl) (by kernel_rfl) (fun _ _ _ h => h) (Or.inl ⟨by rfl, ?hyq1_8⟩) (by assumption) ?restq1_8
      case hyq1_8 => (intro w hSw; (try dsimp only at hSw); go_simp; try with_reducible rfl)
      try simp only [Act.put, List.setIfInBounds_toArray, List.set_cons_zero, List.set_cons_succ]
      refine take_of (some 3) (i := 9) (v := ?vq1_9) rfl rfl (by kernel_rfl) (by kernel_rfl) (by kernel_rfl) (fun _ _ _ h => h) (Or.inl ⟨by rfl, ?hyq1_9⟩) (by assumption) ?restq1_9
      case hyq1_9 => (intro w hSw; (try dsimp only at hSw); go_simp; try with_reducible rfl)
      try simp only [Act.put, List.setIfInBounds_toArray, List.set_cons_zero, List.set_cons_succ]
      refine wpAnyH_done (by kernel_rfl) ?_ _
      refine NoPanic.normal ?_
      go_wp2
      go_roundw
      case rel => exact ⟨j + 1, by omega, by go_num, by rw [HN.out], HB3.out⟩
      case measure => simp [intOf]; omega
    · obtain rfl : j = n := by omega
      go_wp2
      go_ret
      exact ⟨rfl, BJ.out⟩
set_option maxHeartbeats 2000000 in
theorem fontText_any (A : Option Addr) (n c : Nat) (xs : List Srt) (w : World) (hr : Rd cSrt 2 w w.heap.size A n xs) (hf : fontB xs = true) (hT : Lib.TabIs Tryd.prog w "internal/strconv.uint64pow10" .u64 Lib.pow10Tab) :
    Calls Tryd.prog 50 #[.slice A n c] w fun e w' => e = .returned (.string (fT xs n)) ∧ Below w.heap.size w w' := by
  have hl := hr.1
  have hlen := font_len hf
  have HR := Lib.hid hr
  have HF := Lib.hid hf
  have HT := Lib.hid hT
  have HSZ := Lib.hid (fT_size hf)
  clear hr hf hT
  go_enter Tryd.func50, Tryd.ntmps50
  go_wp2
  go_loopw [3, 8] (fun s i wr => ∃ j : Nat, j ≤ n ∧ i = .int .i64 j ∧ s = .string (fT xs j) ∧ Below w.heap.size w wr) (fun _ i _ => n - (intOf i).toNat)
  case atStart => exact ⟨0, Nat.zero_le _, rfl, rfl, Below.refl _ _⟩
  case round =>
    obtain ⟨j, hj, rfl, rfl, hbj⟩ := hrel
    have BJ := Lib.hid hbj
    have hsz := hbj.size
    have hsj := HSZ.out j
    by_cases hlt : j < n
    · obtain ⟨bo, offo, x, rfl, hbB, hik, hc0, hc1⟩ := (HR.out.below hbj).atSrt hlt
      have hs := font_each HF.out hik
      have hcd := sort_code hs
      have hset := sort_set hs
      have HN := Lib.hid (fT_snoc hik)
      clear hik hs hbj
      obtain ⟨cd, st⟩ := x
      dsimp only at hc0 hc1 hcd hset HN
      obtain ⟨m, rfl⟩ : ∃ m : Nat, st = (m : Int) := ⟨st.toNat, by omega⟩
      rw [Int.toNat_natCast] at HN
      have hm12 : m < 1000000000000 := by omega
      have hsm := numS_size hm12
      have h59 : (⟨#[59]⟩ : ByteArray).size ≤ 1 := by decide
      have f1 : Fit cd (numS m) := fit_of hcd hsm (by omega)
      have f2 : Fit (catS cd (numS m)) ⟨#[59]⟩ := fit_of (p := 15) (by rw [catS_size]; omega) h59 (by omega)
      have f3 : Fit (fT xs j) (catS (catS cd (numS m)) ⟨#[59]⟩) := fit_of (q := 16) hsj (by rw [catS_size, catS_size]; omega) (by omega)
      have hb0 : bo < wr.heap.size := by omega
      clear hcd hset hsm h59
      go_wp2_with fail
      refine wp_region_noPanic ?_
      refine wp_region_held_drew (S := (fun w' => w'.cell? ⟨wr.heap.size, 0, none⟩ = some (.string cd) ∧ w'.cell? ⟨wr.heap.size, 1, none⟩ = some (.int .i64 (m : Int)))) (by kernel_rfl) (by (try dsimp only); go_keep) (fun hHeld => ?_)
      refine take_of (some 12) (i := 0) (v := ?vq2_0) rfl rfl (by kernel_rfl) (by kernel_rfl) (by kernel_rfl) (fun _ _ _ h => h) (Or.inl ⟨by rfl, ?hyq2_0⟩) (by assumption) ?restq2_0
      case hyq2_0 => (intro w hSw; (try dsimp only at hSw); go_simp; try with_reducible rfl)
      try simp only [Act.put, List.setIfInBounds_toArray, List.set_cons_zero, List.set_cons_succ]
      refine take_of (some 13) (i := 1) (v := ?vq2_1) rfl rfl (by kernel_rfl) (by kernel_rfl) (by kernel_rfl) (fun _ _ _ h => h) (Or.inl ⟨by rfl, ?hyq2_1⟩) (by assumption) ?restq2_1
      case hyq2_1 => (intro w hSw; (try dsimp only at hSw); go_simp; try with_reducible rfl)
      try simp only [Act.put, List.setIfInBounds_toArray, List.set_cons_zero, List.set_cons_succ]
      refine take_of (some 14) (i := 2) (v := ?vq2_2) rfl rfl (by kernel_rfl) (by kernel_rfl) (by kernel_rfl) (fun _ _ _ h => h) (Or.inl ⟨by rfl, ?hyq2_2⟩) (by assumption) ?restq2_2
      case hyq2_2 => (intro w hSw; (try dsimp only at hSw); go_simp; try with_reducible rfl)
      try simp only [Act.put, List.setIfInBounds_toArray, List.set_cons_zero, List.set_cons_succ]
      refine take_of (some 15) (i := 3) (v := ?vq2_3) rfl rfl (by kernel_rfl) (by kernel_rfl) (by kernel_rfl) (fun _ _ _ h => h) (Or.inl ⟨by rfl, ?hyq2_3⟩) (by assumption) ?restq2_3
      case hyq2_3 => (intro w hSw; (try dsimp only at hSw); go_simp; try with_reducible rfl)
      try simp only [Act.put, List.setIfInBounds_toArray, List.set_cons_zero, List.set_cons_succ]
      refine take_of (some 16) (i := 4) (v := ?vq2_4) rfl rfl (by kernel_rfl) (by kernel_rfl) (by kernel_rfl) (fun _ _ _ h => h) (Or.inl ⟨by rfl, ?hyq2_4⟩) (by assumption) ?restq2_4
      case hyq2_4 => (intro w hSw; (try dsimp only at hSw); go_simp; try with_reducible rfl)
      try simp only [Act.put, List.setIfInBounds_toArray, List.set_cons_zero, List.set_cons_succ]
      refine wpAnyH_ready (rs := [5]) (by kernel_rfl) (by simp) ?_
      refine AllReadyH.cons rfl (fun K hK => ?_) AllReadyH.nil
      go_simp
      (go_at_call 57; refine (itoa_any m hm12 _ (tab_below HT.out (bl_drew (bl_alloc BJ.out _)))).mono ?_; rintro e w3 ⟨rfl, hb⟩; have x0 : w3.cell? ⟨wr.heap.size, 0, none⟩ = some (.string cd) := (hb.cell (p := ⟨wr.heap.size, 0, none⟩) (by show wr.heap.size < _; simp)).trans (by simp); have x1 : w3.cell? ⟨wr.heap.size, 1, none⟩ = some (.int .i64 (m : Int)) := (hb.cell (p := ⟨wr.heap.size, 1, none⟩) (by show wr.heap.size < _; simp)).trans (by simp); have HB3 := Lib.hid (bl_trans (bl_drew (bl_alloc BJ.out _)) hb); clear hb)
      go_wp2_with fail
      refine hK.out _ _ (by (try dsimp only); go_keep) (fun hHeld => ?_)
      clear hK K
      try simp only [Act.put, List.setIfInBounds_toArray, List.set_cons_zero, List.set_cons_succ]
      refine take_of (some 18) (i := 6) (v := ?vq2_6) rfl rfl (by kernel_rfl) (by kernel_rfl) (by kernel_rfl) (fun _ _ _ h => h) (Or.inl ⟨by rfl, ?hyq2_6⟩) (by assumption) ?restq2_6
      case hyq2_6 => (intro w hSw; (try dsimp only at hSw); go_simp; try with_reducible rfl)
      try simp only [Act.put, List.setIfInBounds_toArray, List.set_cons_zero, List.set_cons_succ]
      refine take_of (some 19) (i := 7) (v := ?vq2_7) rfl rfl (by kernel_rfl) (by kernel_rfl) (by kernel_rfl) (fun _ _ _ h => h) (Or.inl ⟨by rfl, ?hyq2_7⟩) (by assumption) ?restq2_7
      case hyq2_7 => (intro w hSw; (try dsimp only at hSw); go_simp; try with_reducible rfl)
      try simp only [Act.put, List.setIfInBounds_toArray, List.set_cons_zero, List.set_cons_succ]
      refine take_of (some 20) (i := 8) (v := ?vq2_8) rfl rfl (by kernel_rfl) (by kernel_rfl) (by kernel_rfl) (fun _ _ _ h => h) (Or.inl ⟨by rfl, ?hyq2_8⟩) (by assumption) ?restq2_8
      case hyq2_8 => (intro w hSw; (try dsimp only at hSw); go_simp; try with_reducible rfl)
      try simp only [Act.put, List.setIfInBounds_toArray, List.set_cons_zero, List.set_cons_succ]
      refine take_of (some 3) (i := 9) (v := ?vq2_9) rfl rfl (by kernel_rfl) (by kernel_rfl) (by kernel_rfl) (fun _ _ _ h => h) (Or.inl ⟨by rfl, ?hyq2_9⟩) (by assumption) ?restq2_9
      case hyq2_9 => (intro w hSw; (try dsimp only at hSw); go_simp; try with_reducible rfl)
      try simp only [Act.put, List.setIfInBounds_toArray, List.set_cons_zero, List.set_cons_succ]
      refine wpAnyH_done (by kernel_rfl) ?_ _
      refine NoPanic.normal ?_
      go_wp2
      go_roundw
      case rel => exact ⟨j + 1, by omega, by go_num, by rw [HN.out], HB3.out⟩
      case measure => simp [intOf]; omega
    · obtain rfl : j = n := by omega
      go_wp2
      go_ret
      exact ⟨rfl, BJ.out⟩
def ftS (xs : List Srt) : ByteArray := if fontB xs = true then fT xs xs.length else ⟨#[]⟩
theorem ftS_no {xs : List Srt} (h : fontB xs = false) : ftS xs = ⟨#[]⟩ := by simp [ftS, h]
theorem ftS_yes {xs : List Srt} (h : fontB xs = true) : ftS xs = fT xs xs.length := by simp [ftS, h]
set_option maxHeartbeats 2000000 in
theorem specFT_any (A : Option Addr) (n c B : Nat) (xs : List Srt) (w : World) (hr : Rd cSrt 2 w B A n xs) (hB : B ≤ w.heap.size) (hn : n ≤ 1048576) (hok : ∀ x ∈ xs, okSrt x) (hT : Lib.TabIs Tryd.prog w "internal/strconv.uint64pow10" .u64 Lib.pow10Tab) :
    Calls Tryd.prog 17 #[.slice A n c] w (PairS (ftS xs) (fontB xs) w) := by
  have hl := hr.1
  have HR := Lib.hid hr
  have HT := Lib.hid hT
  have HF := Lib.hid (tyFont_any A n c B xs w hr hB hn hok)
  clear hr hT hok
  rcases h : fontB xs with _ | _
  · have HH := Lib.hid h
    have HE := Lib.hid (ftS_no h)
    clear h
    go_enter Tryd.func17, Tryd.ntmps17
    go_wp2_with (go_at_call 46; refine HF.out.mono ?_; rw [HH.out]; rintro e w1 ⟨rfl, hb⟩)
    go_ret2
    exact pair_s HE.out.symm rfl (by repeat (first | (with_reducible exact Below.refl _ _) | (with_reducible assumption) | (with_reducible refine bl_alloc ?_ _) | (with_reducible refine bl_drew ?_) | (with_reducible refine bl_drewN ?_ _) | ((with_reducible refine bl_set ?_ ?hb _); (case hb => first | (simp; done) | omega | (simp; omega))) | (with_reducible refine bl_trans ?_ (by assumption))))
  · have HH := Lib.hid h
    have HE := Lib.hid (ftS_yes h)
    clear h
    go_enter Tryd.func17, Tryd.ntmps17
    go_wp2_with fail
    refine HF.out.mono ?_
    rw [HH.out]
    rintro e w1 ⟨rfl, hb⟩
    have HB1 := Lib.hid hb
    clear hb
    go_wp2_with fail
    refine (tyText_any A n c xs w1 ((HR.out.more hB).below HB1.out |>.more HB1.out.size) HH.out (tab_below HT.out HB1.out)).mono ?_
    rintro e w2 ⟨rfl, hb⟩
    have HB2 := Lib.hid (bl_trans HB1.out hb)
    clear hb
    go_wp2
    go_ret2
    rw [HE.out, hl]
    exact ⟨rfl, HB2.out⟩
set_option maxHeartbeats 2000000 in
theorem implFT_any (A : Option Addr) (n c B : Nat) (xs : List Srt) (w : World) (hr : Rd cSrt 2 w B A n xs) (hB : B ≤ w.heap.size) (hn : n ≤ 1048576) (hok : ∀ x ∈ xs, okSrt x) (hT : Lib.TabIs Tryd.prog w "internal/strconv.uint64pow10" .u64 Lib.pow10Tab) :
    Calls Tryd.prog 19 #[.slice A n c] w (PairS (ftS xs) (fontB xs) w) := by
  have hl := hr.1
  have HR := Lib.hid hr
  have HT := Lib.hid hT
  have HF := Lib.hid (implIsFont_any A n c B xs w hr hB hn hok)
  clear hr hT hok
  rcases h : fontB xs with _ | _
  · have HH := Lib.hid h
    have HE := Lib.hid (ftS_no h)
    clear h
    go_enter Tryd.func19, Tryd.ntmps19
    go_wp2_with (go_at_call 49; refine HF.out.mono ?_; rw [HH.out]; rintro e w1 ⟨rfl, hb⟩)
    go_ret2
    exact pair_s HE.out.symm rfl (by repeat (first | (with_reducible exact Below.refl _ _) | (with_reducible assumption) | (with_reducible refine bl_alloc ?_ _) | (with_reducible refine bl_drew ?_) | (with_reducible refine bl_drewN ?_ _) | ((with_reducible refine bl_set ?_ ?hb _); (case hb => first | (simp; done) | omega | (simp; omega))) | (with_reducible refine bl_trans ?_ (by assumption))))
  · have HH := Lib.hid h
    have HE := Lib.hid (ftS_yes h)
    clear h
    go_enter Tryd.func19, Tryd.ntmps19
    go_wp2_with fail
    refine HF.out.mono ?_
    rw [HH.out]
    rintro e w1 ⟨rfl, hb⟩
    have HB1 := Lib.hid hb
    clear hb
    go_wp2_with fail
    refine (fontText_any A n c xs w1 ((HR.out.more hB).below HB1.out |>.more HB1.out.size) HH.out (tab_below HT.out HB1.out)).mono ?_
    rintro e w2 ⟨rfl, hb⟩
    have HB2 := Lib.hid (bl_trans HB1.out hb)
    clear hb
    go_wp2
    go_ret2
    rw [HE.out, hl]
    exact ⟨rfl, HB2.out⟩
set_option maxHeartbeats 2000000 in
theorem lawFontText (A : Option Addr) (n c : Nat) (xs : List Srt) (w : World) (hr : Rd cSrt 2 w w.heap.size A n xs) (hn : n ≤ maxLen) (hok : ∀ x ∈ xs, okSrt x) (hT : Lib.TabIs Tryd.prog w "internal/strconv.uint64pow10" .u64 Lib.pow10Tab) : Calls Tryd.prog 5 #[.slice A n c] w fun e w' => e = .returned (.bool (true)) ∧ Below w.heap.size w w' := by
  have hn' := hn
  unfold maxLen at hn'
  have HN := Lib.hid hn
  have HOK := Lib.hid hok
  have HT := Lib.hid hT
  have HS := Lib.hid (szSortS_any A n c _ xs 1048576 w hr (Nat.le_refl _) hn hok (by omega) (by omega))
  have H1 := Lib.hid (fun A1 c1 W hr hn ht => specFT_any A1 n c1 _ xs W hr (Nat.le_refl _) hn hok ht)
  have H2 := Lib.hid (fun A1 c1 W hr hn ht => implFT_any A1 n c1 _ xs W hr (Nat.le_refl _) hn hok ht)
  obtain ⟨s, hs⟩ : ∃ s, ftS xs = s := ⟨_, rfl⟩
  obtain ⟨v, hv⟩ : ∃ v, fontB xs = v := ⟨_, rfl⟩
  rw [hs, hv] at H1 H2
  clear hn hok hT hs hv
  go_enter Tryd.func5, Tryd.ntmps5
  rcases v with _ | _
  · skip
    go_wp2_with fail
    refine HS.out.mono ?_
    rintro e w0 ⟨r, rfl, hsz, hb0⟩
    have HSZ := Lib.hid hsz
    clear hsz
    by_cases hneg : r < 0
    · go_wp2_with fail
      go_ret
      exact ⟨rfl, by repeat (first | (with_reducible exact Below.refl _ _) | (with_reducible assumption) | (with_reducible refine bl_alloc ?_ _) | (with_reducible refine bl_drew ?_) | (with_reducible refine bl_drewN ?_ _) | ((with_reducible refine bl_set ?_ ?hb _); (case hb => first | (simp; done) | omega | (simp; omega))) | (with_reducible refine bl_trans ?_ (by assumption)))⟩
    · have hn2 : n ≤ 1048576 := by
        rcases HSZ.out with h | h <;> omega
      have hB0 : w.heap.size ≤ w0.heap.size := hb0.size
      go_wp2_with fail
      refine (toSrtS_any _ _ _ _ xs _ (hr.below hb0) hB0 hn2).mono ?_
      rintro e w1 ⟨A1, c1, rfl, h1, hb1⟩
      go_wp2_with fail
      refine (H1.out _ _ _ h1.rd hn2 (tab_below HT.out (bl_trans hb0 hb1))).mono ?_
      rintro e w2 ⟨rfl, hb2⟩
      have hB2 : Below w.heap.size w w2 := by repeat (first | (with_reducible exact Below.refl _ _) | (with_reducible assumption) | (with_reducible refine bl_alloc ?_ _) | (with_reducible refine bl_drew ?_) | (with_reducible refine bl_drewN ?_ _) | ((with_reducible refine bl_set ?_ ?hb _); (case hb => first | (simp; done) | omega | (simp; omega))) | (with_reducible refine bl_trans ?_ (by assumption)))
      go_wp2_with fail
      refine (toSrtS_any _ _ _ _ xs _ (hr.below hB2) hB2.size hn2).mono ?_
      rintro e w3 ⟨A3, c3, rfl, h3, hb3⟩
      go_wp2_with fail
      refine (H2.out _ _ _ h3.rd hn2 (tab_below HT.out (bl_trans hB2 hb3))).mono ?_
      rintro e w4 ⟨rfl, hb4⟩
      have hB4 : Below w.heap.size w w4 := by repeat (first | (with_reducible exact Below.refl _ _) | (with_reducible assumption) | (with_reducible refine bl_alloc ?_ _) | (with_reducible refine bl_drew ?_) | (with_reducible refine bl_drewN ?_ _) | ((with_reducible refine bl_set ?_ ?hb _); (case hb => first | (simp; done) | omega | (simp; omega))) | (with_reducible refine bl_trans ?_ (by assumption)))
      go_wp2_with fail
      refine (toSrtS_any _ _ _ _ xs _ (hr.below hB4) hB4.size hn2).mono ?_
      rintro e w5 ⟨A5, c5, rfl, h5, hb5⟩
      go_wp2_with fail
      refine (eqSrtS_same _ _ _ _ _ _ _ xs _ ((h3.below hb4).below hb5).rd h5.rd (Nat.le_refl _) (Nat.le_refl _) HN.out).mono ?_
      rintro e w6 ⟨rfl, hb6⟩
      go_wp2
      go_ret
      exact ⟨rfl, by repeat (first | (with_reducible exact Below.refl _ _) | (with_reducible assumption) | (with_reducible refine bl_alloc ?_ _) | (with_reducible refine bl_drew ?_) | (with_reducible refine bl_drewN ?_ _) | ((with_reducible refine bl_set ?_ ?hb _); (case hb => first | (simp; done) | omega | (simp; omega))) | (with_reducible refine bl_trans ?_ (by assumption)))⟩
  · skip
    go_wp2_with fail
    refine HS.out.mono ?_
    rintro e w0 ⟨r, rfl, hsz, hb0⟩
    have HSZ := Lib.hid hsz
    clear hsz
    by_cases hneg : r < 0
    · go_wp2_with fail
      go_ret
      exact ⟨rfl, by repeat (first | (with_reducible exact Below.refl _ _) | (with_reducible assumption) | (with_reducible refine bl_alloc ?_ _) | (with_reducible refine bl_drew ?_) | (with_reducible refine bl_drewN ?_ _) | ((with_reducible refine bl_set ?_ ?hb _); (case hb => first | (simp; done) | omega | (simp; omega))) | (with_reducible refine bl_trans ?_ (by assumption)))⟩
    · have hn2 : n ≤ 1048576 := by
        rcases HSZ.out with h | h <;> omega
      have hB0 : w.heap.size ≤ w0.heap.size := hb0.size
      go_wp2_with fail
      refine (toSrtS_any _ _ _ _ xs _ (hr.below hb0) hB0 hn2).mono ?_
      rintro e w1 ⟨A1, c1, rfl, h1, hb1⟩
      go_wp2_with fail
      refine (H1.out _ _ _ h1.rd hn2 (tab_below HT.out (bl_trans hb0 hb1))).mono ?_
      rintro e w2 ⟨rfl, hb2⟩
      have hB2 : Below w.heap.size w w2 := by repeat (first | (with_reducible exact Below.refl _ _) | (with_reducible assumption) | (with_reducible refine bl_alloc ?_ _) | (with_reducible refine bl_drew ?_) | (with_reducible refine bl_drewN ?_ _) | ((with_reducible refine bl_set ?_ ?hb _); (case hb => first | (simp; done) | omega | (simp; omega))) | (with_reducible refine bl_trans ?_ (by assumption)))
      go_wp2_with fail
      refine (toSrtS_any _ _ _ _ xs _ (hr.below hB2) hB2.size hn2).mono ?_
      rintro e w3 ⟨A3, c3, rfl, h3, hb3⟩
      go_wp2_with fail
      refine (H2.out _ _ _ h3.rd hn2 (tab_below HT.out (bl_trans hB2 hb3))).mono ?_
      rintro e w4 ⟨rfl, hb4⟩
      have hB4 : Below w.heap.size w w4 := by repeat (first | (with_reducible exact Below.refl _ _) | (with_reducible assumption) | (with_reducible refine bl_alloc ?_ _) | (with_reducible refine bl_drew ?_) | (with_reducible refine bl_drewN ?_ _) | ((with_reducible refine bl_set ?_ ?hb _); (case hb => first | (simp; done) | omega | (simp; omega))) | (with_reducible refine bl_trans ?_ (by assumption)))
      go_wp2_with fail
      refine (toSrtS_any _ _ _ _ xs _ (hr.below hB4) hB4.size hn2).mono ?_
      rintro e w5 ⟨A5, c5, rfl, h5, hb5⟩
      go_wp2_with fail
      refine (eqSrtS_same _ _ _ _ _ _ _ xs _ ((h3.below hb4).below hb5).rd h5.rd (Nat.le_refl _) (Nat.le_refl _) HN.out).mono ?_
      rintro e w6 ⟨rfl, hb6⟩
      go_wp2
      go_ret
      exact ⟨rfl, by repeat (first | (with_reducible exact Below.refl _ _) | (with_reducible assumption) | (with_reducible refine bl_alloc ?_ _) | (with_reducible refine bl_drew ?_) | (with_reducible refine bl_drewN ?_ _) | ((with_reducible refine bl_set ?_ ?hb _); (case hb => first | (simp; done) | omega | (simp; omega))) | (with_reducible refine bl_trans ?_ (by assumption)))⟩
end Go.Proofs.YtgfobchpkjpiiaaDoor
