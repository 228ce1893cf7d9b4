/-
  The text of a melt: contracts and the law's walk.
-/
import Derived.Test.YtgfobchpkjpiiaaDoorTxt2
import Derived.Test.YtgfobchpkjpiiaaDoorMe2
namespace Go.Proofs.YtgfobchpkjpiiaaDoor
open Go.RowKit
set_option linter.unusedVariables false
attribute [local go_sem ↓] Go.wp_at_zero Go.wp_at_succ
attribute [local go_sem high] run_cat

theorem jn3 (l t a : Nat) : catS (catS (catS (catS (numS l) ⟨#[45]⟩) (numS t)) ⟨#[45]⟩) (numS a) = jnS [l, t, a] ⟨#[45]⟩ := by
  apply bytes_ext2
  rw [catS_bytes, catS_bytes, catS_bytes, catS_bytes, numS_bytes, numS_bytes, numS_bytes, jnS_eq]
  simp [Lib.join_cons, Lib.joinTail]
/-- returns a string and a bool -/
def PairS (s : ByteArray) (b : Bool) (w : World) (e : Ending) (w' : World) : Prop := e = .returned (.tuple #[.string s, .bool b]) ∧ Below w.heap.size w w'
theorem pair_s {x y : ByteArray} {b c : Bool} {w w' : World} (h : x = y) (h' : b = c) (hb : Below w.heap.size w w') : PairS y c w (.returned (.tuple #[.string x, .bool b])) w' := by subst h; subst h'; exact ⟨rfl, hb⟩
set_option maxHeartbeats 2000000 in
theorem meText_any (l t a : Nat) (hl : l ≤ 1000000) (ht : t ≤ 1000000) (ha : a ≤ 1000000) (w : World) :
    Calls Tryd.prog 37 #[.agg #[.int .i64 (l : Int), .int .i64 (t : Int), .int .i64 (a : Int)]] w fun e w' => e = .returned (.string (jnS [l, t, a] ⟨#[45]⟩)) ∧ Below w.heap.size w w' := by
  have HJ := Lib.hid (jn3 l t a)
  have sl := numS_size (n := l) (by omega)
  have st := numS_size (n := t) (by omega)
  have sa := numS_size (n := a) (by omega)
  have sd : (⟨#[45]⟩ : ByteArray).size ≤ 1 := by decide
  have f1 : Fit (numS l) ⟨#[45]⟩ := fit_of sl sd (by omega)
  have f2 : Fit (catS (numS l) ⟨#[45]⟩) (numS t) := fit_of (p := 13) (by rw [catS_size]; omega) st (by omega)
  have f3 : Fit (catS (catS (numS l) ⟨#[45]⟩) (numS t)) ⟨#[45]⟩ := fit_of (p := 25) (by rw [catS_size, catS_size]; omega) sd (by omega)
  have f4 : Fit (catS (catS (catS (numS l) ⟨#[45]⟩) (numS t)) ⟨#[45]⟩) (numS a) := fit_of (p := 26) (by rw [catS_size, catS_size, catS_size]; omega) sa (by omega)
  clear sl st sa sd
  go_enter Tryd.func37, Tryd.ntmps37
  go_wp2_with fail
  refine wp_region_noPanic ?_
  refine wp_region_held_drew (S := (fun w' => w'.cell? ⟨w.heap.size, 0, none⟩ = some (.int .i64 (l : Int)) ∧ w'.cell? ⟨w.heap.size, 1, none⟩ = some (.int .i64 (t : Int)) ∧ w'.cell? ⟨w.heap.size, 2, none⟩ = some (.int .i64 (a : Int)))) (by kernel_rfl) (by (try dsimp only); go_keep) (fun hHeld => ?_)
  refine take_of (some 3) (i := 0) (v := ?vq6_0) rfl rfl (by kernel_rfl) (by kernel_rfl) (by kernel_rfl) (fun _ _ _ h => h) (Or.inl ⟨by rfl, ?hyq6_0⟩) (by assumption) ?restq6_0
  case hyq6_0 => (intro w hSw; (try dsimp only at hSw); go_simp; try with_reducible rfl)
  try simp only [Act.put, List.setIfInBounds_toArray, List.set_cons_zero, List.set_cons_succ]
  refine take_of (some 4) (i := 1) (v := ?vq6_1) rfl rfl (by kernel_rfl) (by kernel_rfl) (by kernel_rfl) (fun _ _ _ h => h) (Or.inl ⟨by rfl, ?hyq6_1⟩) (by assumption) ?restq6_1
  case hyq6_1 => (intro w hSw; (try dsimp only at hSw); go_simp; try with_reducible rfl)
  try simp only [Act.put, List.setIfInBounds_toArray, List.set_cons_zero, List.set_cons_succ]
  refine take_of (some 7) (i := 4) (v := ?vq6_4) rfl rfl (by kernel_rfl) (by kernel_rfl) (by kernel_rfl) (fun _ _ _ h => h) (Or.inl ⟨by rfl, ?hyq6_4⟩) (by assumption) ?restq6_4
  case hyq6_4 => (intro w hSw; (try dsimp only at hSw); go_simp; try with_reducible rfl)
  try simp only [Act.put, List.setIfInBounds_toArray, List.set_cons_zero, List.set_cons_succ]
  refine take_of (some 8) (i := 5) (v := ?vq6_5) rfl rfl (by kernel_rfl) (by kernel_rfl) (by kernel_rfl) (fun _ _ _ h => h) (Or.inl ⟨by rfl, ?hyq6_5⟩) (by assumption) ?restq6_5
  case hyq6_5 => (intro w hSw; (try dsimp only at hSw); go_simp; try with_reducible rfl)
  try simp only [Act.put, List.setIfInBounds_toArray, List.set_cons_zero, List.set_cons_succ]
  refine take_of (some 12) (i := 9) (v := ?vq6_9) rfl rfl (by kernel_rfl) (by kernel_rfl) (by kernel_rfl) (fun _ _ _ h => h) (Or.inl ⟨by rfl, ?hyq6_9⟩) (by assumption) ?restq6_9
  case hyq6_9 => (intro w hSw; (try dsimp only at hSw); go_simp; try with_reducible rfl)
  try simp only [Act.put, List.setIfInBounds_toArray, List.set_cons_zero, List.set_cons_succ]
  refine take_of (some 13) (i := 10) (v := ?vq6_10) rfl rfl (by kernel_rfl) (by kernel_rfl) (by kernel_rfl) (fun _ _ _ h => h) (Or.inl ⟨by rfl, ?hyq6_10⟩) (by assumption) ?restq6_10
  case hyq6_10 => (intro w hSw; (try dsimp only at hSw); go_simp; try with_reducible rfl)
  try simp only [Act.put, List.setIfInBounds_toArray, List.set_cons_zero, List.set_cons_succ]
  refine wpAnyH_ready (rs := [2]) (by kernel_rfl) (by simp) ?_
  refine AllReadyH.cons rfl (fun K hK => ?_) AllReadyH.nil
  go_simp
  (go_at_call 60; refine (l1Num_any l (by omega) _).mono ?_; rintro e w3 ⟨rfl, hb0⟩; have hb : Below (w.heap.size + 1) (w.alloc (.cells #[.int .i64 (l : Int), .int .i64 (t : Int), .int .i64 (a : Int)] 26)) w3 := ((Below.refl _ _).drew.trans (hb0.mono (by simp))); have x0 : w3.cell? ⟨w.heap.size, 0, none⟩ = some (.int .i64 (l : Int)) := (hb.cell (p := ⟨w.heap.size, 0, none⟩) (by show w.heap.size < _; first | omega | (simp; done) | (simp; omega))).trans (by simp); have x1 : w3.cell? ⟨w.heap.size, 1, none⟩ = some (.int .i64 (t : Int)) := (hb.cell (p := ⟨w.heap.size, 1, none⟩) (by show w.heap.size < _; first | omega | (simp; done) | (simp; omega))).trans (by simp); have x2 : w3.cell? ⟨w.heap.size, 2, none⟩ = some (.int .i64 (a : Int)) := (hb.cell (p := ⟨w.heap.size, 2, none⟩) (by show w.heap.size < _; first | omega | (simp; done) | (simp; omega))).trans (by simp); have hs3 : w.heap.size < w3.heap.size := (by have := hb.size; simp at this; omega); have HB3 := Lib.hid (bl_trans (bl_drew (bl_alloc (Below.refl w.heap.size w) _)) hb0); clear hb hb0)
  go_wp2_with fail
  refine hK.out _ _ (by (try dsimp only); go_keep) (fun hHeld => ?_)
  clear hK K
  try simp only [Act.put, List.setIfInBounds_toArray, List.set_cons_zero, List.set_cons_succ]
  refine take_of (some 6) (i := 3) (v := ?vq6_3) rfl rfl (by kernel_rfl) (by kernel_rfl) (by kernel_rfl) (fun _ _ _ h => h) (Or.inl ⟨by rfl, ?hyq6_3⟩) (by assumption) ?restq6_3
  case hyq6_3 => (intro w hSw; (try dsimp only at hSw); go_simp; try with_reducible rfl)
  try simp only [Act.put, List.setIfInBounds_toArray, List.set_cons_zero, List.set_cons_succ]
  refine wpAnyH_ready (rs := [6]) (by kernel_rfl) (by simp) ?_
  refine AllReadyH.cons rfl (fun K hK => ?_) AllReadyH.nil
  go_simp
  (go_at_call 60; refine (l1Num_any t (by omega) _).mono ?_; rintro e w4 ⟨rfl, hb⟩; have y0 := (hb.cell (p := ⟨w.heap.size, 0, none⟩) (by show w.heap.size < _; first | omega | (simp; done) | (simp; omega))).trans x0; have y1 := (hb.cell (p := ⟨w.heap.size, 1, none⟩) (by show w.heap.size < _; first | omega | (simp; done) | (simp; omega))).trans x1; have y2 := (hb.cell (p := ⟨w.heap.size, 2, none⟩) (by show w.heap.size < _; first | omega | (simp; done) | (simp; omega))).trans x2; have hs4 : w.heap.size < w4.heap.size := (by have := hb.size; omega); have HB4 := Lib.hid (bl_trans HB3.out hb); clear hb)
  go_wp2_with fail
  refine hK.out _ _ (by (try dsimp only); go_keep) (fun hHeld => ?_)
  clear hK K
  try simp only [Act.put, List.setIfInBounds_toArray, List.set_cons_zero, List.set_cons_succ]
  refine take_of (some 10) (i := 7) (v := ?vq6_7) rfl rfl (by kernel_rfl) (by kernel_rfl) (by kernel_rfl) (fun _ _ _ h => h) (Or.inl ⟨by rfl, ?hyq6_7⟩) (by assumption) ?restq6_7
  case hyq6_7 => (intro w hSw; (try dsimp only at hSw); go_simp; try with_reducible rfl)
  try simp only [Act.put, List.setIfInBounds_toArray, List.set_cons_zero, List.set_cons_succ]
  refine take_of (some 11) (i := 8) (v := ?vq6_8) rfl rfl (by kernel_rfl) (by kernel_rfl) (by kernel_rfl) (fun _ _ _ h => h) (Or.inl ⟨by rfl, ?hyq6_8⟩) (by assumption) ?restq6_8
  case hyq6_8 => (intro w hSw; (try dsimp only at hSw); go_simp; try with_reducible rfl)
  try simp only [Act.put, List.setIfInBounds_toArray, List.set_cons_zero, List.set_cons_succ]
  refine wpAnyH_ready (rs := [11]) (by kernel_rfl) (by simp) ?_
  refine AllReadyH.cons rfl (fun K hK => ?_) AllReadyH.nil
  go_simp
  (go_at_call 60; refine (l1Num_any a (by omega) _).mono ?_; rintro e w5 ⟨rfl, hb⟩; have z0 := (hb.cell (p := ⟨w.heap.size, 0, none⟩) (by show w.heap.size < _; first | omega | (simp; done) | (simp; omega))).trans y0; have z1 := (hb.cell (p := ⟨w.heap.size, 1, none⟩) (by show w.heap.size < _; first | omega | (simp; done) | (simp; omega))).trans y1; have z2 := (hb.cell (p := ⟨w.heap.size, 2, none⟩) (by show w.heap.size < _; first | omega | (simp; done) | (simp; omega))).trans y2; have HB5 := Lib.hid (bl_trans HB4.out hb); clear hb)
  go_wp2_with fail
  refine hK.out _ _ (by (try dsimp only); go_keep) (fun hHeld => ?_)
  clear hK K
  try simp only [Act.put, List.setIfInBounds_toArray, List.set_cons_zero, List.set_cons_succ]
  refine take_of (some 15) (i := 12) (v := ?vq6_12) rfl rfl (by kernel_rfl) (by kernel_rfl) (by kernel_rfl) (fun _ _ _ h => h) (Or.inl ⟨by rfl, ?hyq6_12⟩) (by assumption) ?restq6_12
  case hyq6_12 => (intro w hSw; (try dsimp only at hSw); go_simp; try with_reducible rfl)
  try simp only [Act.put, List.setIfInBounds_toArray, List.set_cons_zero, List.set_cons_succ]
  refine take_of (some 2) (i := 13) (v := ?vq6_13) rfl rfl (by kernel_rfl) (by kernel_rfl) (by kernel_rfl) (fun _ _ _ h => h) (Or.inl ⟨by rfl, ?hyq6_13⟩) (by assumption) ?restq6_13
  case hyq6_13 => (intro w hSw; (try dsimp only at hSw); go_simp; try with_reducible rfl)
  try simp only [Act.put, List.setIfInBounds_toArray, List.set_cons_zero, List.set_cons_succ]
  refine wpAnyH_done (by kernel_rfl) ?_ _
  refine NoPanic.normal ?_
  go_wp2
  go_ret
  rw [HJ.out]
  exact ⟨rfl, HB5.out⟩
set_option maxHeartbeats 2000000 in
theorem meltText_any (l t a : Nat) (hl : l ≤ 1000000) (ht : t ≤ 1000000) (ha : a ≤ 1000000) (w : World) (hT : Lib.TabIs Tryd.prog w "internal/strconv.uint64pow10" .u64 Lib.pow10Tab) :
    Calls Tryd.prog 39 #[.agg #[.int .i64 (l : Int), .int .i64 (t : Int), .int .i64 (a : Int)]] w fun e w' => e = .returned (.string (jnS [l, t, a] ⟨#[45]⟩)) ∧ Below w.heap.size w w' := by
  have HT := Lib.hid hT
  clear hT
  go_enter Tryd.func39, Tryd.ntmps39
  go_wp2_with fail
  have e1 : (w.alloc (.cells #[.int .i64 (l : Int), .int .i64 (t : Int), .int .i64 (a : Int)] 26)).heap.size = w.heap.size + 1 := by simp
  have hr := rd3 (w.alloc (.cells #[.int .i64 (l : Int), .int .i64 (t : Int), .int .i64 (a : Int)] 26)) (l : Int) (t : Int) (a : Int) 3 (w.heap.size + 1) e1.symm
  refine (join_any _ 3 3 [l, t, a] ⟨#[45]⟩ _ (hr.more (by simp)) (by omega) (by omega) (by intro x hx; simp at hx; omega) (by decide) (tab_below HT.out (by repeat (first | (with_reducible exact Below.refl _ _) | (with_reducible assumption) | (with_reducible refine bl_alloc ?_ _) | (with_reducible refine bl_drew ?_) | (with_reducible refine bl_drewN ?_ _) | ((with_reducible refine bl_set ?_ ?hb _); (case hb => first | (simp; done) | omega | (simp; omega))) | (with_reducible refine bl_trans ?_ (by assumption)))))).mono ?_
  rintro e w3 ⟨rfl, hb⟩
  have HB3 := Lib.hid (bl_trans (bl_alloc (bl_alloc (Below.refl w.heap.size w) _) _) hb)
  clear hb hr e1
  go_wp2
  go_ret
  exact ⟨rfl, HB3.out⟩
def mtS (l t a : Int) : ByteArray := if meltB l t a = true then jnS [l.toNat, t.toNat, a.toNat] ⟨#[45]⟩ else ⟨#[]⟩
theorem mtS_no {l t a : Int} (h : meltB l t a = false) : mtS l t a = ⟨#[]⟩ := by simp [mtS, h]
theorem mtS_yes {l t a : Nat} (h : meltB l t a = true) : mtS l t a = jnS [l, t, a] ⟨#[45]⟩ := by simp [mtS, h]
set_option maxHeartbeats 2000000 in
theorem specMT_any (l t a : Int) (w : World) (hT : Lib.TabIs Tryd.prog w "internal/strconv.uint64pow10" .u64 Lib.pow10Tab) : Calls Tryd.prog 10 #[.agg #[.int .i64 l, .int .i64 t, .int .i64 a]] w (PairS (mtS l t a) (meltB l t a) w) := by
  have HT := Lib.hid hT
  clear hT
  rcases h : meltB l t a with _ | _
  · have HH := Lib.hid h
    have HE := Lib.hid (mtS_no h)
    clear h
    go_enter Tryd.func10, Tryd.ntmps10
    go_wp2_with (go_at_call 36; refine (meGood_any _ _ _ _).mono ?_; rw [HH.out]; rintro e w1 ⟨rfl, hb⟩)
    go_ret2
    exact pair_s HE.out.symm rfl (by repeat (first | (with_reducible exact Below.refl _ _) | (with_reducible assumption) | (with_reducible refine bl_alloc ?_ _) | (with_reducible refine bl_drew ?_) | (with_reducible refine bl_drewN ?_ _) | ((with_reducible refine bl_set ?_ ?hb _); (case hb => first | (simp; done) | omega | (simp; omega))) | (with_reducible refine bl_trans ?_ (by assumption))))
  · obtain ⟨⟨h1, h2⟩, ⟨h3, h4⟩, h5, h6⟩ := melt_iff.1 h
    obtain ⟨l', rfl⟩ : ∃ n : Nat, l = (n : Int) := ⟨l.toNat, by omega⟩
    obtain ⟨t', rfl⟩ : ∃ n : Nat, t = (n : Int) := ⟨t.toNat, by omega⟩
    obtain ⟨a', rfl⟩ : ∃ n : Nat, a = (n : Int) := ⟨a.toNat, by omega⟩
    have HH := Lib.hid h
    have HE := Lib.hid (mtS_yes h)
    clear h
    go_enter Tryd.func10, Tryd.ntmps10
    go_wp2_with fail
    refine (meGood_any _ _ _ _).mono ?_
    rw [HH.out]
    rintro e w1 ⟨rfl, hb⟩
    obtain ⟨hc0, hf0, hz0⟩ := bl_at hb (k := w.heap.size) (by first | assumption | (simp; done) | (simp; omega))
    have HB1 := Lib.hid (show Below w.heap.size w w1 from by repeat (first | (with_reducible exact Below.refl _ _) | (with_reducible assumption) | (with_reducible refine bl_alloc ?_ _) | (with_reducible refine bl_drew ?_) | (with_reducible refine bl_drewN ?_ _) | ((with_reducible refine bl_set ?_ ?hb _); (case hb => first | (simp; done) | omega | (simp; omega))) | (with_reducible refine bl_trans ?_ (by assumption))))
    clear hb
    go_wp2_with fail
    refine (meText_any l' t' a' (by omega) (by omega) (by omega) _).mono ?_
    rintro e w2 ⟨rfl, hb⟩
    have HB2 := Lib.hid (bl_trans HB1.out hb)
    clear hb
    go_wp2
    go_ret2
    exact pair_s HE.out.symm rfl HB2.out
set_option maxHeartbeats 2000000 in
theorem implMT_any (l t a : Int) (w : World) (hT : Lib.TabIs Tryd.prog w "internal/strconv.uint64pow10" .u64 Lib.pow10Tab) : Calls Tryd.prog 12 #[.agg #[.int .i64 l, .int .i64 t, .int .i64 a]] w (PairS (mtS l t a) (meltB l t a) w) := by
  have HT := Lib.hid hT
  clear hT
  rcases h : meltB l t a with _ | _
  · have HH := Lib.hid h
    have HE := Lib.hid (mtS_no h)
    clear h
    go_enter Tryd.func12, Tryd.ntmps12
    go_wp2_with (go_at_call 38; refine (implIsMelt_any _ _ _ _).mono ?_; rw [HH.out]; rintro e w1 ⟨rfl, hb⟩)
    go_ret2
    exact pair_s HE.out.symm rfl (by repeat (first | (with_reducible exact Below.refl _ _) | (with_reducible assumption) | (with_reducible refine bl_alloc ?_ _) | (with_reducible refine bl_drew ?_) | (with_reducible refine bl_drewN ?_ _) | ((with_reducible refine bl_set ?_ ?hb _); (case hb => first | (simp; done) | omega | (simp; omega))) | (with_reducible refine bl_trans ?_ (by assumption))))
  · obtain ⟨⟨h1, h2⟩, ⟨h3, h4⟩, h5, h6⟩ := melt_iff.1 h
    obtain ⟨l', rfl⟩ : ∃ n : Nat, l = (n : Int) := ⟨l.toNat, by omega⟩
    obtain ⟨t', rfl⟩ : ∃ n : Nat, t = (n : Int) := ⟨t.toNat, by omega⟩
    obtain ⟨a', rfl⟩ : ∃ n : Nat, a = (n : Int) := ⟨a.toNat, by omega⟩
    have HH := Lib.hid h
    have HE := Lib.hid (mtS_yes h)
    clear h
    go_enter Tryd.func12, Tryd.ntmps12
    go_wp2_with fail
    refine (implIsMelt_any _ _ _ _).mono ?_
    rw [HH.out]
    rintro e w1 ⟨rfl, hb⟩
    obtain ⟨hc0, hf0, hz0⟩ := bl_at hb (k := w.heap.size) (by first | assumption | (simp; done) | (simp; omega))
    have HB1 := Lib.hid (show Below w.heap.size w w1 from by repeat (first | (with_reducible exact Below.refl _ _) | (with_reducible assumption) | (with_reducible refine bl_alloc ?_ _) | (with_reducible refine bl_drew ?_) | (with_reducible refine bl_drewN ?_ _) | ((with_reducible refine bl_set ?_ ?hb _); (case hb => first | (simp; done) | omega | (simp; omega))) | (with_reducible refine bl_trans ?_ (by assumption))))
    clear hb
    go_wp2_with fail
    refine (meltText_any l' t' a' (by omega) (by omega) (by omega) _ (tab_below HT.out HB1.out)).mono ?_
    rintro e w2 ⟨rfl, hb⟩
    have HB2 := Lib.hid (bl_trans HB1.out hb)
    clear hb
    go_wp2
    go_ret2
    exact pair_s HE.out.symm rfl HB2.out
set_option maxHeartbeats 2000000 in
theorem lawMeltText (l t a : Int) (w : World) (_ : I64 l) (_ : I64 t) (_ : I64 a) (hT : Lib.TabIs Tryd.prog w "internal/strconv.uint64pow10" .u64 Lib.pow10Tab) : Calls Tryd.prog 3 #[.agg #[.int .i64 l, .int .i64 t, .int .i64 a]] w fun e w' => e = .returned (.bool (true)) ∧ Below w.heap.size w w' := by
  have HT := Lib.hid hT
  have H1 := Lib.hid (fun W h => specMT_any l t a W h)
  have H2 := Lib.hid (fun W h => implMT_any l t a W h)
  obtain ⟨s, hs⟩ : ∃ s, mtS l t a = s := ⟨_, rfl⟩
  obtain ⟨b, hb⟩ : ∃ b, meltB l t a = b := ⟨_, rfl⟩
  rw [hs, hb] at H1 H2
  clear hT hs hb
  go_enter Tryd.func3, Tryd.ntmps3
  go_wp2_with fail
  refine (toMelt_any _ _ _ _).mono ?_
  rintro e w1 ⟨rfl, hb⟩
  obtain ⟨hc0, hf0, hz0⟩ := bl_at hb (k := w.heap.size) (by first | assumption | (simp; done) | (simp; omega))
  have HB1 := Lib.hid (show Below w.heap.size w w1 from by repeat (first | (with_reducible exact Below.refl _ _) | (with_reducible assumption) | (with_reducible refine bl_alloc ?_ _) | (with_reducible refine bl_drew ?_) | (with_reducible refine bl_drewN ?_ _) | ((with_reducible refine bl_set ?_ ?hb _); (case hb => first | (simp; done) | omega | (simp; omega))) | (with_reducible refine bl_trans ?_ (by assumption))))
  have hz1 : w.heap.size < w1.heap.size := hz0
  clear hb
  go_wp2_with fail
  refine (H1.out _ (tab_below HT.out HB1.out)).mono ?_
  rintro e w2 ⟨rfl, hb⟩
  obtain ⟨hc0, hf0, hz0⟩ := bl_at hb (k := w.heap.size) (by first | assumption | (simp; done) | (simp; omega))
  have HB2 := Lib.hid (bl_trans HB1.out hb)
  clear hb
  go_wp2_with fail
  refine (toMelt_any _ _ _ _).mono ?_
  rintro e w3 ⟨rfl, hb⟩
  have HB3 := Lib.hid (bl_trans HB2.out hb)
  clear hb
  go_wp2_with fail
  refine (H2.out _ (tab_below HT.out HB3.out)).mono ?_
  rintro e w4 ⟨rfl, hb⟩
  have HB4 := Lib.hid (bl_trans HB3.out hb)
  clear hb
  rcases b with _ | _
  · go_wp2
    go_ret
    exact ⟨rfl, HB4.out⟩
  · go_wp2
    go_ret
    exact ⟨rfl, HB4.out⟩
end Go.Proofs.YtgfobchpkjpiiaaDoor
