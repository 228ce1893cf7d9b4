/-
  The least filed strike: contracts, the law's walk.
-/
import Derived.Test.YtbklljbjggoiaaaMa9
namespace Go.Proofs.Ytbklljbjggoiaaa
open Go.RowKit
set_option linter.unusedVariables false
attribute [local go_sem ↓] Go.wp_at_zero Go.wp_at_succ

def canX (x y : Stk) : Bool := canB x.a x.b x.c x.d x.f y.a y.b y.c y.d y.f
def difX (x y : Stk) : List Int := difs x.a x.b x.c x.d x.f y.a y.b y.c y.d y.f
theorem difX_len (x y : Stk) : (difX x y).length = 5 := difs_len _ _ _ _ _ _ _ _ _ _
theorem difX_bd {x y : Stk} (hx : goodS x = true) (hy : goodS y = true) : ∀ z ∈ difX x y, -999 ≤ z ∧ z ≤ 999 := by
  have h1 := strike_iff.1 hx
  have h2 := strike_iff.1 hy
  intro z hz
  simp [difX, difs, difTo] at hz
  rcases hz with h | h | h | h | h <;> omega
/-- is strike x, of sum s, better than the best so far? -/
def betterB (x y : Stk) (p : Int × Int) : Bool := canX x y && (decide (p.1 < 0) || decide (sumL (difX x y) < p.2))
def bestTo (xs : List Stk) (y : Stk) : Nat → Int × Int
  | 0 => (-1, 0)
  | k + 1 => match xs[k]? with
    | some x => if betterB x y (bestTo xs y k) = true then ((k : Int), sumL (difX x y)) else bestTo xs y k
    | none => bestTo xs y k
theorem bestTo_yes {xs : List Stk} {y x : Stk} {k : Nat} (h : xs[k]? = some x) (hb : betterB x y (bestTo xs y k) = true) : bestTo xs y (k + 1) = ((k : Int), sumL (difX x y)) := by
  rw [bestTo, h]; simp [hb]
theorem bestTo_no {xs : List Stk} {y x : Stk} {k : Nat} (h : xs[k]? = some x) (hb : betterB x y (bestTo xs y k) = false) : bestTo xs y (k + 1) = bestTo xs y k := by
  rw [bestTo, h]; simp [hb]
theorem better_can {x y : Stk} {p : Int × Int} (h : canX x y = false) : betterB x y p = false := by simp [betterB, h]
theorem better_eq {x y : Stk} {p : Int × Int} (h : canX x y = true) : betterB x y p = (decide (p.1 < 0) || decide (sumL (difX x y) < p.2)) := by simp [betterB, h]
def leastB (xs : List Stk) (y : Stk) : Bool := listB xs && goodS y && decide (0 ≤ (bestTo xs y xs.length).1)
/-- returns two numbers and a bool -/
def TripB (p q : Int) (b : Bool) (w : World) (e : Ending) (w' : World) : Prop := e = .returned (.tuple #[.int .i64 p, .int .i64 q, .bool b]) ∧ Below w.heap.size w w'
theorem trip_b {p q x y : Int} {b c : Bool} {w w' : World} (h1 : p = x) (h2 : q = y) (h : b = c) (hb : Below w.heap.size w w') : TripB x y c w (.returned (.tuple #[.int .i64 p, .int .i64 q, .bool b])) w' := by
  subst h1 h2 h; exact ⟨rfl, hb⟩
set_option maxHeartbeats 1000000 in
theorem specLeast_any (A : Option Addr) (n c B : Nat) (xs : List Stk) (y : Stk) (w : World) (hr : Rd cStk 5 w B A n xs) (hB : B ≤ w.heap.size) (hn : n ≤ 1048576) :
    Calls Try.prog 40 #[.slice A n c, .agg #[.int .i64 y.a, .int .i64 y.b, .int .i64 y.c, .int .i64 y.d, .int .i64 y.f]] w (TripB (oV (leastB xs y) (bestTo xs y xs.length).1) (oV (leastB xs y) (bestTo xs y xs.length).2) (leastB xs y) w) := by
  have hl := hr.1
  rcases hL : listB xs with _ | _
  · have HL := Lib.hid hL
    have HF := Lib.hid (show leastB xs y = false by simp [leastB, hL])
    clear hL
    go_enter Try.func40, Try.ntmps40
    go_wp2_with fail
    refine (maList_any _ _ _ _ xs _ (hr.below ((bl_alloc (Below.refl w.heap.size w) _).mono hB)) (by simp; omega) hn).mono ?_
    rw [HL.out]
    rintro e w1 ⟨rfl, hb1⟩
    go_wp2
    go_ret3
    exact trip_b (oV_no HF.out).symm (oV_no HF.out).symm HF.out.symm (by repeat (first | (with_reducible exact Below.refl _ _) | (with_reducible assumption) | (with_reducible refine bl_alloc ?_ _) | (with_reducible refine bl_drew ?_) | (with_reducible refine bl_drewN ?_ _) | ((with_reducible refine bl_set ?_ ?hb _); (case hb => first | (simp; done) | omega | (simp; omega))) | (with_reducible refine bl_trans ?_ (by assumption))))
  · have HL := Lib.hid hL
    rcases hG : goodS y with _ | _
    · have HF := Lib.hid (show leastB xs y = false by simp [leastB, hG])
      have HG := Lib.hid hG
      clear hL hG
      go_enter Try.func40, Try.ntmps40
      go_wp2_with fail
      refine (maList_any _ _ _ _ xs _ (hr.below ((bl_alloc (Below.refl w.heap.size w) _).mono hB)) (by simp; omega) hn).mono ?_
      rw [HL.out]
      rintro e w1 ⟨rfl, hb⟩
      obtain ⟨hc0, hf0, hz0⟩ := bl_at hb (k := w.heap.size) (by first | assumption | (simp; done) | (simp; omega))
      go_wp2_with fail
      refine (maGood_any _ _ _ _ _ _).mono ?_
      rw [show strikeB y.a y.b y.c y.d y.f = false from HG.out]
      rintro e w2 ⟨rfl, hb2⟩
      go_wp2
      go_ret3
      exact trip_b (oV_no HF.out).symm (oV_no HF.out).symm HF.out.symm (by repeat (first | (with_reducible exact Below.refl _ _) | (with_reducible assumption) | (with_reducible refine bl_alloc ?_ _) | (with_reducible refine bl_drew ?_) | (with_reducible refine bl_drewN ?_ _) | ((with_reducible refine bl_set ?_ ?hb _); (case hb => first | (simp; done) | omega | (simp; omega))) | (with_reducible refine bl_trans ?_ (by assumption))))
    · have HG := Lib.hid hG
      have hE : leastB xs y = decide (0 ≤ (bestTo xs y xs.length).1) := by simp [leastB, hL, hG]
      have HE := Lib.hid hE
      have hn30 := list_len hL
      clear hL hG hE
      go_enter Try.func40, Try.ntmps40
      go_wp2_with fail
      refine (maList_any _ _ _ _ xs _ (hr.below ((bl_alloc (Below.refl w.heap.size w) _).mono hB)) (by simp; omega) hn).mono ?_
      rw [HL.out]
      rintro e w1 ⟨rfl, hb⟩
      obtain ⟨hc0, hf0, hz0⟩ := bl_at hb (k := w.heap.size) (by first | assumption | (simp; done) | (simp; omega))
      go_wp2_with fail
      refine (maGood_any _ _ _ _ _ _).mono ?_
      rw [show strikeB y.a y.b y.c y.d y.f = true from HG.out]
      rintro e W ⟨rfl, hb2⟩
      have hbW : Below w.heap.size w W := by repeat (first | (with_reducible exact Below.refl _ _) | (with_reducible assumption) | (with_reducible refine bl_alloc ?_ _) | (with_reducible refine bl_drew ?_) | (with_reducible refine bl_drewN ?_ _) | ((with_reducible refine bl_set ?_ ?hb _); (case hb => first | (simp; done) | omega | (simp; omega))) | (with_reducible refine bl_trans ?_ (by assumption)))
      have hsz : w.heap.size < W.heap.size := by have := hb2.size; have := hb.size; simp at *; omega
      have hy : ∀ j, j < 5 → W.cell? ⟨w.heap.size, j, none⟩ = some (cStk y j) := by
        intro j hj
        rw [(bl_cell hb2).1 _ _ hz0, hc0, World.cell?_alloc_at _ _ _ _ (by simp)]
        match j, hj with
        | 0, _ => rfl
        | 1, _ => rfl
        | 2, _ => rfl
        | 3, _ => rfl
        | 4, _ => rfl
      clear hb hb2 hc0 hf0 hz0
      have hyg := Lib.hid hy
      clear hy
      go_wp2
      go_loopw [7, 8, 24] (fun p q i wr => ∃ k : Nat, k ≤ n ∧ i = .int .i64 k ∧ p = .int .i64 (bestTo xs y k).1 ∧ q = .int .i64 (bestTo xs y k).2 ∧ Below W.heap.size W wr) (fun _ _ i _ => n - (intOf i).toNat)
      case atStart => exact ⟨0, Nat.zero_le _, rfl, rfl, rfl, Below.refl _ _⟩
      case round =>
        obtain ⟨k, hk, rfl, rfl, rfl, hb⟩ := hrel
        by_cases hlt : k < n
        · obtain ⟨b, off, x, rfl, hbB, hx, c0, c1, c2, c3, c4⟩ := (hr.below ((hbW.trans (hb.mono hbW.size)).mono hB)).atStk hlt
          obtain ⟨hcY, hfY, hzY⟩ := bl_at hb hsz
          have y0 : wr.cell? ⟨w.heap.size, 0, none⟩ = some (.int .i64 y.a) := (hcY 0).trans (hyg.out 0 (by omega))
          have y1 : wr.cell? ⟨w.heap.size, 1, none⟩ = some (.int .i64 y.b) := (hcY 1).trans (hyg.out 1 (by omega))
          have y2 : wr.cell? ⟨w.heap.size, 2, none⟩ = some (.int .i64 y.c) := (hcY 2).trans (hyg.out 2 (by omega))
          have y3 : wr.cell? ⟨w.heap.size, 3, none⟩ = some (.int .i64 y.d) := (hcY 3).trans (hyg.out 3 (by omega))
          have y4 : wr.cell? ⟨w.heap.size, 4, none⟩ = some (.int .i64 y.f) := (hcY 4).trans (hyg.out 4 (by omega))
          have hne : w.heap.size ≠ wr.heap.size := by omega
          have hne' : wr.heap.size ≠ w.heap.size := by omega
          have HX := Lib.hid hx
          have HB := Lib.hid hb
          have HGX := Lib.hid (list_each HL.out hx)
          clear hx hb hcY hfY
          rcases hC : canX x y with _ | _
          · have HC := Lib.hid hC
            go_wp2_with fail
            refine (maCan_any _ _ _ _ _ _ _ _ _ _ _ HGX.out HG.out).mono ?_
            rw [show canB x.a x.b x.c x.d x.f y.a y.b y.c y.d y.f = false from HC.out]
            rintro e w2 ⟨rfl, hb2⟩
            go_wp2
            go_roundw
            case rel => exact ⟨k + 1, by omega, by go_num, by rw [bestTo_no HX.out (better_can HC.out)], by rw [bestTo_no HX.out (better_can HC.out)], bl_trans HB.out (bl_trans (bl_alloc (Below.refl _ _) _) hb2)⟩
            case measure => simp [intOf]; omega
          · have HC := Lib.hid hC
            go_wp2_with fail
            refine (maCan_any _ _ _ _ _ _ _ _ _ _ _ HGX.out HG.out).mono ?_
            rw [show canB x.a x.b x.c x.d x.f y.a y.b y.c y.d y.f = true from HC.out]
            rintro e w2 ⟨rfl, hb⟩
            obtain ⟨hc1, hf1, hz1⟩ := bl_at hb (k := w.heap.size) (by first | assumption | (simp; done) | (simp; omega))
            obtain ⟨hc2, hf2, hz2⟩ := bl_at hb (k := wr.heap.size) (by first | assumption | (simp; done) | (simp; omega))
            have HB2 := Lib.hid hb
            clear hb
            go_wp2_with fail
            refine (maFilings_any _ _ _ _ _ _ _ _ _ _ _ HGX.out HG.out).mono ?_
            rintro e w3 ⟨A3, c3, he, h3, hb3⟩
            rw [difs_len] at he h3
            subst he
            have HB3 := Lib.hid (show Below W.heap.size W w3 from bl_trans HB.out (bl_trans (bl_trans (bl_alloc (Below.refl _ _) _) HB2.out) hb3))
            have h4 := h3.rd
            have HBD := Lib.hid (difX_bd HGX.out HG.out)
            have HS := Lib.hid (sumTo_bd (difX_bd HGX.out HG.out))
            clear hb3 hc1 hf1 hc2 hf2 h3
            go_wp2
            go_loop [11, 37] (fun q i => ∃ j : Nat, j ≤ 5 ∧ i = .int .i64 j ∧ q = .int .i64 (sumTo (difX x y) j)) (fun _ i => 5 - (intOf i).toNat)
            case atStart => exact ⟨0, by omega, rfl, rfl⟩
            case round =>
              obtain ⟨j, hj, rfl, rfl⟩ := hrel
              by_cases hlt5 : j < 5
              · obtain ⟨b', off', z, rfl, _, hz, hc⟩ := h4.atI hlt5
                have hs1 := HS.out j (by rw [difX_len]; omega)
                have hs2 := HBD.out z (List.mem_of_getElem? hz)
                have HZ := Lib.hid hz
                clear hz
                go_wp2
                go_round
                case rel => exact ⟨j + 1, by omega, by go_num, by rw [sumTo_snoc (xs := difX x y) HZ.out]⟩
                case measure => simp [intOf]; omega
              · obtain rfl : j = 5 := by omega
                have hsum : sumTo (difX x y) 5 = sumL (difX x y) := by rw [sumL, difX_len]
                have HQ := Lib.hid hsum
                have HE2 := Lib.hid (better_eq (p := bestTo xs y k) HC.out)
                by_cases h1 : (bestTo xs y k).1 < 0
                · have HY := Lib.hid (bestTo_yes HX.out (by rw [HE2.out]; simp [h1]))
                  go_wp2
                  go_roundw
                  case rel => exact ⟨k + 1, by omega, by go_num, by rw [HY.out], by rw [HY.out, HQ.out], HB3.out⟩
                  case measure => simp [intOf]; omega
                · by_cases h2 : sumTo (difX x y) 5 < (bestTo xs y k).2
                  · have HY := Lib.hid (bestTo_yes HX.out (by rw [HE2.out, ← HQ.out]; simp [h2]))
                    go_wp2
                    go_roundw
                    case rel => exact ⟨k + 1, by omega, by go_num, by rw [HY.out], by rw [HY.out, HQ.out], HB3.out⟩
                    case measure => simp [intOf]; omega
                  · have HY := Lib.hid (bestTo_no HX.out (by rw [HE2.out, ← HQ.out]; simp [h2]; omega))
                    go_wp2
                    go_roundw
                    case rel => exact ⟨k + 1, by omega, by go_num, by rw [HY.out], by rw [HY.out], HB3.out⟩
                    case measure => simp [intOf]; omega
        · obtain rfl : k = n := by omega
          have HBn := Lib.hid (bl_trans hbW hb)
          subst hl
          by_cases hneg : (bestTo xs y xs.length).1 < 0
          · have HF := Lib.hid (show leastB xs y = false by rw [HE.out]; simp; omega)
            go_wp2
            go_ret3
            exact trip_b (oV_no HF.out).symm (oV_no HF.out).symm HF.out.symm HBn.out
          · have HF := Lib.hid (show leastB xs y = true by rw [HE.out]; simp; omega)
            go_wp2
            go_ret3
            exact trip_b (oV_yes HF.out).symm (oV_yes HF.out).symm HF.out.symm HBn.out
end Go.Proofs.Ytbklljbjggoiaaa
