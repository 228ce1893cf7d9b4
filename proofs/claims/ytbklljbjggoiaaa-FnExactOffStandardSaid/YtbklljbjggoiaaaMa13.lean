/-
  Strikes off the standard: contracts.
-/
import Derived.Test.YtbklljbjggoiaaaMa9
import Derived.Test.YtbklljbjggoiaaaMa10
namespace Go.Proofs.Ytbklljbjggoiaaa
open Go.RowKit
set_option linter.unusedVariables false
attribute [local go_sem ↓] Go.wp_at_zero Go.wp_at_succ

/-- does strike x differ too much? -/
def offB (x y : Stk) (m : Int) : Bool := !allIn (difX x y) (-m) m
def offTo (xs : List Stk) (y : Stk) (m : Int) : Nat → List Int
  | 0 => []
  | k + 1 => match xs[k]? with
    | some x => if offB x y m = true then offTo xs y m k ++ [(k : Int)] else offTo xs y m k
    | none => offTo xs y m k
theorem offTo_yes {xs : List Stk} {y x : Stk} {m : Int} {k : Nat} (h : xs[k]? = some x) (hb : offB x y m = true) : offTo xs y m (k + 1) = offTo xs y m k ++ [(k : Int)] := by
  rw [offTo, h]; simp [hb]
theorem offTo_no {xs : List Stk} {y x : Stk} {m : Int} {k : Nat} (h : xs[k]? = some x) (hb : offB x y m = false) : offTo xs y m (k + 1) = offTo xs y m k := by
  rw [offTo, h]; simp [hb]
theorem offTo_len (xs : List Stk) (y : Stk) (m : Int) : ∀ k, (offTo xs y m k).length ≤ k
  | 0 => by simp [offTo]
  | k + 1 => by
    have := offTo_len xs y m k
    rw [offTo]
    split
    · split
      · simp; omega
      · omega
    · omega
def offOk (xs : List Stk) (y : Stk) (m : Int) : Bool := listB xs && (goodS y && inB m 0 999)
def offL (xs : List Stk) (y : Stk) (m : Int) : List Int := if offOk xs y m then offTo xs y m xs.length else []
theorem offL_no {xs : List Stk} {y : Stk} {m : Int} (h : offOk xs y m = false) : offL xs y m = [] := by simp [offL, h]
theorem offL_yes {xs : List Stk} {y : Stk} {m : Int} (h : offOk xs y m = true) : offL xs y m = offTo xs y m xs.length := by simp [offL, h]
theorem offL_len (xs : List Stk) (y : Stk) (m : Int) : (offL xs y m).length ≤ xs.length := by
  unfold offL
  split
  · exact offTo_len _ _ _ _
  · simp
theorem off_parts {xs : List Stk} {y : Stk} {m : Int} (h : offOk xs y m = false) : listB xs = false ∨ listB xs = true ∧ goodS y = false ∨ listB xs = true ∧ goodS y = true ∧ inB m 0 999 = false := by
  unfold offOk at h
  rcases h1 : listB xs with _ | _ <;> rcases h2 : goodS y with _ | _ <;> rcases h3 : inB m 0 999 with _ | _ <;> simp_all
theorem off_all {xs : List Stk} {y : Stk} {m : Int} (h : offOk xs y m = true) : listB xs = true ∧ goodS y = true ∧ inB m 0 999 = true := by
  unfold offOk at h
  simpa using h
set_option maxHeartbeats 1000000 in
theorem specOff_no (A : Option Addr) (n c B : Nat) (xs : List Stk) (y : Stk) (m : Int) (w : World) (hr : Rd cStk 5 w B A n xs) (hB : B ≤ w.heap.size) (hn : n ≤ 1048576) (h : offOk xs y m = false) :
    Calls Try.prog 42 #[.slice A n c, .agg #[.int .i64 y.a, .int .i64 y.b, .int .i64 y.c, .int .i64 y.d, .int .i64 y.f], .int .i64 m] w (RetS [] false w) := by
  rcases off_parts h with h1 | ⟨h1, h2⟩ | ⟨h1, h2, h3⟩
  all_goals
    have H1 := Lib.hid h1
    try have H2 := Lib.hid (show strikeB y.a y.b y.c y.d y.f = _ from h2)
    clear h
    go_enter Try.func42, Try.ntmps42
    go_wp2_with (first | (go_at_call 56; refine (maList_any _ _ _ _ xs _ (hr.below ((bl_alloc (Below.refl w.heap.size w) _).mono hB)) (by simp; omega) hn).mono ?_; rw [H1.out]; rintro e w1 ⟨rfl, hb⟩; obtain ⟨hc0, hf0, hz0⟩ := bl_at hb (k := w.heap.size) (by first | assumption | (simp; done) | (simp; omega))) | (go_at_call 45; refine (maGood_any _ _ _ _ _ _).mono ?_; rw [H2.out]; rintro e w2 ⟨rfl, hb⟩; obtain ⟨hc0, hf0, hz0⟩ := bl_at hb (k := w.heap.size) (by first | assumption | (simp; done) | (simp; omega))) | (go_at_call 48; refine (l1In_any _ _ _ _).mono ?_; rintro e w' ⟨rfl, rfl⟩))
    go_ret2
    exact rets_nil rfl (by repeat (first | (with_reducible exact Below.refl _ _) | (with_reducible assumption) | (with_reducible refine bl_alloc ?_ _) | (with_reducible refine bl_drew ?_) | (with_reducible refine bl_drewN ?_ _) | ((with_reducible refine bl_set ?_ ?hb _); (case hb => first | (simp; done) | omega | (simp; omega))) | (with_reducible refine bl_trans ?_ (by assumption)))) _ _
set_option maxHeartbeats 1000000 in
theorem implOff_no (A : Option Addr) (n c B : Nat) (xs : List Stk) (y : Stk) (m : Int) (w : World) (hr : Rd cStk 5 w B A n xs) (hB : B ≤ w.heap.size) (hn : n ≤ 1048576) (h : offOk xs y m = false) :
    Calls Try.prog 43 #[.slice A n c, .agg #[.int .i64 y.a, .int .i64 y.b, .int .i64 y.c, .int .i64 y.d, .int .i64 y.f], .int .i64 m] w (RetS [] false w) := by
  rcases off_parts h with h1 | ⟨h1, h2⟩ | ⟨h1, h2, h3⟩
  all_goals
    have H1 := Lib.hid h1
    try have H2 := Lib.hid (show strikeB y.a y.b y.c y.d y.f = _ from h2)
    clear h
    go_enter Try.func43, Try.ntmps43
    go_wp2_with (first | (go_at_call 57; refine (areStrikes_any _ _ _ _ xs _ (hr.below ((bl_alloc (Below.refl w.heap.size w) _).mono hB)) (by simp; omega) hn).mono ?_; rw [H1.out]; rintro e w1 ⟨rfl, hb⟩; obtain ⟨hc0, hf0, hz0⟩ := bl_at hb (k := w.heap.size) (by first | assumption | (simp; done) | (simp; omega))) | (go_at_call 16; refine (implIsStrike_any _ _ _ _ _ _).mono ?_; rw [H2.out]; rintro e w2 ⟨rfl, hb⟩; obtain ⟨hc0, hf0, hz0⟩ := bl_at hb (k := w.heap.size) (by first | assumption | (simp; done) | (simp; omega))) | (go_at_call 47; refine (within_any _ _ _ _).mono ?_; rintro e w' ⟨rfl, rfl⟩))
    go_ret2
    exact rets_nil rfl (by repeat (first | (with_reducible exact Below.refl _ _) | (with_reducible assumption) | (with_reducible refine bl_alloc ?_ _) | (with_reducible refine bl_drew ?_) | (with_reducible refine bl_drewN ?_ _) | ((with_reducible refine bl_set ?_ ?hb _); (case hb => first | (simp; done) | omega | (simp; omega))) | (with_reducible refine bl_trans ?_ (by assumption)))) _ _
set_option maxHeartbeats 1000000 in
theorem specOff_yes (A : Option Addr) (n c B : Nat) (xs : List Stk) (y : Stk) (m : Int) (w : World) (hr : Rd cStk 5 w B A n xs) (hB : B ≤ w.heap.size) (hn : n ≤ 1048576) (h : offOk xs y m = true) :
    Calls Try.prog 42 #[.slice A n c, .agg #[.int .i64 y.a, .int .i64 y.b, .int .i64 y.c, .int .i64 y.d, .int .i64 y.f], .int .i64 m] w (RetS (offTo xs y m xs.length) true w) := by
  obtain ⟨h1, h2, h3⟩ := off_all h
  have hl := hr.1
  have hm := inB_iff.1 h3
  have hn30 := list_len h1
  have H1 := Lib.hid h1
  have H2 := Lib.hid (show strikeB y.a y.b y.c y.d y.f = true from h2)
  have HG := Lib.hid h2
  have HLEN := Lib.hid (offTo_len xs y m)
  clear h h1 h2
  obtain ⟨i0, hi0, hi1, hi2, hi3⟩ := info_parts infoI
  have e1 : IntKind.i64.wrap (-m) = -m := IntWalk.i64_in _ (by omega)
  go_enter Try.func42, Try.ntmps42
  go_wp2_with (first | (go_at_call 56; refine (maList_any _ _ _ _ xs _ (hr.below ((bl_alloc (Below.refl w.heap.size w) _).mono hB)) (by simp; omega) hn).mono ?_; rw [H1.out]; rintro e w1 ⟨rfl, hb⟩; obtain ⟨hc0, hf0, hz0⟩ := bl_at hb (k := w.heap.size) (by first | assumption | (simp; done) | (simp; omega))) | (go_at_call 45; refine (maGood_any _ _ _ _ _ _).mono ?_; rw [H2.out]; rintro e W ⟨rfl, hb2⟩) | (go_at_call 48; refine (l1In_any _ _ _ _).mono ?_; rintro e w' ⟨rfl, rfl⟩))
  have hbW : Below w.heap.size w W := by repeat (first | (with_reducible exact Below.refl _ _) | (with_reducible assumption) | (with_reducible refine bl_alloc ?_ _) | (with_reducible refine bl_drew ?_) | (with_reducible refine bl_drewN ?_ _) | ((with_reducible refine bl_set ?_ ?hb _); (case hb => first | (simp; done) | omega | (simp; omega))) | (with_reducible refine bl_trans ?_ (by assumption)))
  have hsz : w.heap.size < W.heap.size := by have := hb2.size; have := hb.size; simp at *; omega
  have hy : ∀ j, j < 5 → W.cell? ⟨w.heap.size, j, none⟩ = some (cStk y j) := by
    intro j hj
    rw [(bl_cell hb2).1 _ _ hz0, hc0, World.cell?_alloc_at _ _ _ _ (by simp)]
    match j, hj with
    | 0, _ => rfl
    | 1, _ => rfl
    | 2, _ => rfl
    | 3, _ => rfl
    | 4, _ => rfl
  clear hb hb2 hc0 hf0 hz0
  have hyg := Lib.hid hy
  clear hy
  go_wp2
  go_loopw [8, 26] (fun s i wr => ∃ k : Nat, k ≤ n ∧ i = .int .i64 k ∧ OwnG 3 1 w.heap.size W W.heap.size wr s (offTo xs y m k).length ((offTo xs y m k).map (Value.int .i64))) (fun _ i _ => n - (intOf i).toNat)
  case atStart => exact ⟨0, Nat.zero_le _, rfl, OwnG.nil _ _⟩
  case round =>
    obtain ⟨k, hk, rfl, hown⟩ := hrel
    by_cases hlt : k < n
    · have hbr : Below w.heap.size w wr := hbW.trans (hown.to_below (B := w.heap.size) (by omega) (by omega))
      obtain ⟨b, off, x, rfl, hbB, hx, c0, c1, c2, c3, c4⟩ := (hr.below (hbr.mono hB)).atStk hlt
      have hyc : ∀ j, j < 5 → wr.cell? ⟨w.heap.size, j, none⟩ = some (cStk y j) := fun j hj => (hown.cell (b := w.heap.size) hsz (by omega) j).trans (hyg.out j hj)
      have y0 : wr.cell? ⟨w.heap.size, 0, none⟩ = some (.int .i64 y.a) := hyc 0 (by omega)
      have y1 : wr.cell? ⟨w.heap.size, 1, none⟩ = some (.int .i64 y.b) := hyc 1 (by omega)
      have y2 : wr.cell? ⟨w.heap.size, 2, none⟩ = some (.int .i64 y.c) := hyc 2 (by omega)
      have y3 : wr.cell? ⟨w.heap.size, 3, none⟩ = some (.int .i64 y.d) := hyc 3 (by omega)
      have y4 : wr.cell? ⟨w.heap.size, 4, none⟩ = some (.int .i64 y.f) := hyc 4 (by omega)
      have hsr := hown.gr.size
      have hzY : w.heap.size < wr.heap.size := by omega
      have hne : w.heap.size ≠ wr.heap.size := by omega
      have hne' : wr.heap.size ≠ w.heap.size := by omega
      have HX := Lib.hid hx
      have HO := Lib.hid hown
      have HGX := Lib.hid (list_each H1.out hx)
      clear hx hown hyc hbr
      go_wp2_with fail
      refine (maFilings_any _ _ _ _ _ _ _ _ _ _ _ HGX.out HG.out).mono ?_
      rintro e w2 ⟨A3, c3, he, h3, hb3⟩
      rw [difs_len] at he h3
      subst he
      have HO2 := Lib.hid ((HO.out.alloc _).below hb3)
      have h4 := h3.rd
      have hl2 := HLEN.out k
      clear hb3 h3
      rcases hO : offB x y m with _ | _
      · have HN := Lib.hid (offTo_no HX.out hO)
        have hall : allIn (difX x y) (-m) m = true := by simpa [offB] using hO
        have HA := Lib.hid hall
        clear hO hall
        go_wp2_with (go_at_call 59; refine (l1All_any _ _ _ _ (difX x y) _ _ _ h4 (by unfold maxLen; omega)).mono ?_; rw [HA.out]; rintro e w' ⟨rfl, rfl⟩)
        go_roundw
        case rel => exact ⟨k + 1, by omega, by go_num, by rw [HN.out]; exact HO2.out⟩
        case measure => simp [intOf]; omega
      · have HN := Lib.hid (offTo_yes HX.out hO)
        have hall : allIn (difX x y) (-m) m = false := by simpa [offB] using hO
        have HA := Lib.hid hall
        clear hO hall
        go_wp2_with (first | (go_at_call 59; refine (l1All_any _ _ _ _ (difX x y) _ _ _ h4 (by unfold maxLen; omega)).mono ?_; rw [HA.out]; rintro e w' ⟨rfl, rfl⟩) | (at_builtin; refine wpList_append_own_at _ rfl _ _ 42 rfl w.heap.size 3 i0 (.int .i64 0) 1 8 Try.underlying42 hi0 hi1 hi2 hi3 rfl (by decide) _ _ _ rfl ((HO2.out.alloc _).own) ⟨w2.heap.size, 0, none⟩ 1 1 [.int .i64 (k)] rfl rfl ?c1 ?c2 ?c3 ?c4 ?c5 ?_))
        case c1 => exact cell_one_new _ _ _
        case c2 => intro u hu; simp at hu; subst hu; rfl
        case c3 => unfold maxLen; omega
        case c4 => omega
        case c5 => have := HO2.out.gr.size; simp; omega
        intro v' w5 hown5 hg5 _ hat5
        have HN5 := Lib.hid (HO2.out.push hown5 hg5 hat5)
        clear hown5 hg5 hat5
        go_wp2
        go_roundw
        case rel => exact ⟨k + 1, by omega, by go_num, by rw [HN.out]; simpa using HN5.out⟩
        case measure => simp [intOf]; omega
    · obtain rfl : k = n := by omega
      have hbl := hown.to_below (B := w.heap.size) (by omega) (by omega)
      subst hl
      obtain ⟨A, cap, rfl, hwr⟩ := own_wr hown.own
      clear hown
      go_wp2
      go_ret2
      exact ⟨A, cap, rfl, hwr, hbW.trans hbl⟩
end Go.Proofs.Ytbklljbjggoiaaa
