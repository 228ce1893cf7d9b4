/-
  Strikes off the standard: the implementation's contract.
-/
import Derived.Test.YtbklljbjggoiaaaMa13
namespace Go.Proofs.Ytbklljbjggoiaaa
open Go.RowKit
set_option linter.unusedVariables false
attribute [local go_sem ↓] Go.wp_at_zero Go.wp_at_succ

theorem abs_any (z : Int) (w : World) (h0 : -1000000 ≤ z) (h1 : z ≤ 1000000) : Calls Try.prog 60 #[.int .i64 z] w fun e w' => e = .returned (.int .i64 (max z (-z))) ∧ w = w' := by
  have e1 : IntKind.i64.wrap (-z) = -z := IntWalk.i64_in _ (by omega)
  by_cases h : z < -z
  · go_enter Try.func60, Try.ntmps60
    go_wp2
    go_ret
    exact ⟨ret_int (by omega), rfl⟩
  · go_enter Try.func60, Try.ntmps60
    go_wp2
    go_ret
    exact ⟨ret_int (by omega), rfl⟩
def exTo (zs : List Int) (m : Int) (k : Nat) : Bool := !((zs.take k).all (inB · (-m) m))
theorem exTo_zero (zs : List Int) (m : Int) : exTo zs m 0 = false := by simp [exTo]
theorem exTo_snoc {zs : List Int} {m : Int} {k : Nat} {z : Int} (h : zs[k]? = some z) : exTo zs m (k + 1) = (exTo zs m k || decide (m < max z (-z))) := by
  unfold exTo
  rw [take_snoc h]
  simp only [List.all_append, Bool.not_and, List.all_cons, List.all_nil, Bool.and_true]
  congr 1
  rcases hi : inB z (-m) m with _ | _
  · have := inB_no.1 hi
    simp; omega
  · have := inB_iff.1 hi
    simp; omega
theorem exTo_end {x y : Stk} {m : Int} : exTo (difX x y) m 5 = offB x y m := by
  unfold exTo offB allIn
  rw [List.take_of_length_le (by rw [difX_len]; omega)]
set_option maxHeartbeats 1000000 in
theorem implOff_yes (A : Option Addr) (n c B : Nat) (xs : List Stk) (y : Stk) (m : Int) (w : World) (hr : Rd cStk 5 w B A n xs) (hB : B ≤ w.heap.size) (hn : n ≤ 1048576) (h : offOk xs y m = true) :
    Calls Try.prog 43 #[.slice A n c, .agg #[.int .i64 y.a, .int .i64 y.b, .int .i64 y.c, .int .i64 y.d, .int .i64 y.f], .int .i64 m] w (RetS (offTo xs y m xs.length) true w) := by
  obtain ⟨h1, h2, h3⟩ := off_all h
  have hl := hr.1
  have hm := inB_iff.1 h3
  have hn30 := list_len h1
  have H1 := Lib.hid h1
  have H2 := Lib.hid (show strikeB y.a y.b y.c y.d y.f = true from h2)
  have HG := Lib.hid h2
  have HLEN := Lib.hid (offTo_len xs y m)
  clear h h1 h2
  obtain ⟨i0, hi0, hi1, hi2, hi3⟩ := info_parts infoI
  go_enter Try.func43, Try.ntmps43
  go_wp2_with (first | (go_at_call 57; refine (areStrikes_any _ _ _ _ xs _ (hr.below ((bl_alloc (Below.refl w.heap.size w) _).mono hB)) (by simp; omega) hn).mono ?_; rw [H1.out]; rintro e w1 ⟨rfl, hb⟩; obtain ⟨hc0, hf0, hz0⟩ := bl_at hb (k := w.heap.size) (by first | assumption | (simp; done) | (simp; omega))) | (go_at_call 16; refine (implIsStrike_any _ _ _ _ _ _).mono ?_; rw [H2.out]; rintro e W0 ⟨rfl, hb2⟩) | (go_at_call 47; refine (within_any _ _ _ _).mono ?_; rintro e w' ⟨rfl, rfl⟩))
  have hy0 : ∀ j, j < 5 → W0.cell? ⟨w.heap.size, j, none⟩ = some (cStk y j) := by
    intro j hj
    rw [(bl_cell hb2).1 _ _ hz0, hc0, World.cell?_alloc_at _ _ _ _ (by simp)]
    match j, hj with
    | 0, _ => rfl
    | 1, _ => rfl
    | 2, _ => rfl
    | 3, _ => rfl
    | 4, _ => rfl
  obtain ⟨W, hW⟩ : ∃ W, W = W0.alloc (.cells #[] 3) := ⟨_, rfl⟩
  have hsz0 : w.heap.size < W0.heap.size := by have := hb2.size; have := hb.size; simp at *; omega
  have hgl : W.heap[W0.heap.size]? = some (.cells #[] 3 (0, 0)) := by
    rw [hW]
    have := heap_alloc_new W0 (.cells #[] 3)
    simpa using this
  have hWs : W.heap.size = W0.heap.size + 1 := by rw [hW]; simp
  have hbW : Below w.heap.size w W := by rw [hW]; exact by repeat (first | (with_reducible exact Below.refl _ _) | (with_reducible assumption) | (with_reducible refine bl_alloc ?_ _) | (with_reducible refine bl_drew ?_) | (with_reducible refine bl_drewN ?_ _) | ((with_reducible refine bl_set ?_ ?hb _); (case hb => first | (simp; done) | omega | (simp; omega))) | (with_reducible refine bl_trans ?_ (by assumption)))
  have hy : ∀ j, j < 5 → W.cell? ⟨w.heap.size, j, none⟩ = some (cStk y j) := by
    intro j hj
    rw [hW, World.cell?_alloc_past _ _ _ (by first | omega | (simp; omega))]
    exact hy0 j hj
  rw [← hW]
  clear hb hb2 hc0 hf0 hz0 hy0 hW
  have hyg := Lib.hid hy
  clear hy
  go_loopw [8, 33] (fun s i wr => ∃ k : Nat, k ≤ n ∧ i = .int .i64 k ∧ OwnG 3 1 w.heap.size W W0.heap.size wr s (offTo xs y m k).length ((offTo xs y m k).map (Value.int .i64))) (fun _ i _ => n - (intOf i).toNat)
  case atStart => exact ⟨0, Nat.zero_le _, rfl, OwnG.start hgl (by omega)⟩
  case round =>
    obtain ⟨k, hk, rfl, hown⟩ := hrel
    by_cases hlt : k < n
    · have hbr : Below w.heap.size w wr := hbW.trans (hown.to_below (B := w.heap.size) (by omega) (by omega))
      obtain ⟨b, off, x, rfl, hbB, hx, c0, c1, c2, c3, c4⟩ := (hr.below (hbr.mono hB)).atStk hlt
      have hyc : ∀ j, j < 5 → wr.cell? ⟨w.heap.size, j, none⟩ = some (cStk y j) := fun j hj => (hown.cell (b := w.heap.size) (by omega) (by omega) j).trans (hyg.out j hj)
      have y0 : wr.cell? ⟨w.heap.size, 0, none⟩ = some (.int .i64 y.a) := hyc 0 (by omega)
      have y1 : wr.cell? ⟨w.heap.size, 1, none⟩ = some (.int .i64 y.b) := hyc 1 (by omega)
      have y2 : wr.cell? ⟨w.heap.size, 2, none⟩ = some (.int .i64 y.c) := hyc 2 (by omega)
      have y3 : wr.cell? ⟨w.heap.size, 3, none⟩ = some (.int .i64 y.d) := hyc 3 (by omega)
      have y4 : wr.cell? ⟨w.heap.size, 4, none⟩ = some (.int .i64 y.f) := hyc 4 (by omega)
      have hsr := hown.gr.size
      have hzY : w.heap.size < wr.heap.size := by omega
      have hne : w.heap.size ≠ wr.heap.size := by omega
      have hne' : wr.heap.size ≠ w.heap.size := by omega
      have HX := Lib.hid hx
      have HO := Lib.hid hown
      have HGX := Lib.hid (list_each H1.out hx)
      have HBD := Lib.hid (difX_bd HGX.out HG.out)
      clear hx hown hyc hbr
      go_wp2_with fail
      refine (filings_any _ _ _ _ _ _ _ _ _ _ _ HGX.out HG.out).mono ?_
      rintro e w2 ⟨A3, c3, he, h3, hb3⟩
      rw [difs_len] at he h3
      subst he
      have HO2 := Lib.hid ((HO.out.alloc _).below hb3)
      have h4 := h3.rd
      have hl2 := HLEN.out k
      clear hb3 h3
      go_wp2
      go_loop [11, 46] (fun q i => ∃ j : Nat, j ≤ 5 ∧ i = .int .i64 j ∧ q = .bool (exTo (difX x y) m j)) (fun _ i => 5 - (intOf i).toNat)
      case atStart => exact ⟨0, by omega, rfl, by rw [exTo_zero]⟩
      case round =>
        obtain ⟨j, hj, rfl, rfl⟩ := hrel
        by_cases hlt5 : j < 5
        · obtain ⟨b', off', z, rfl, _, hz, hc⟩ := h4.atI hlt5
          have hs2 := HBD.out z (List.mem_of_getElem? hz)
          have HS := Lib.hid (exTo_snoc (m := m) (show (difX x y)[j]? = some z from hz))
          clear hz
          rcases he : exTo (difX x y) m j with _ | _
          · have HE := Lib.hid he
            go_wp2_with (go_at_call 60; refine (abs_any _ _ (by omega) (by omega)).mono ?_; rintro e w' ⟨rfl, rfl⟩)
            go_round
            case rel => exact ⟨j + 1, by omega, by go_num, by rw [HS.out, HE.out]; simp⟩
            case measure => simp [intOf]; omega
          · have HE := Lib.hid he
            go_wp2_with (go_at_call 60; refine (abs_any _ _ (by omega) (by omega)).mono ?_; rintro e w' ⟨rfl, rfl⟩)
            go_round
            case rel => exact ⟨j + 1, by omega, by go_num, by rw [HS.out, HE.out]; simp⟩
            case measure => simp [intOf]; omega
        · obtain rfl : j = 5 := by omega
          have HQ := Lib.hid (exTo_end (x := x) (y := y) (m := m))
          rcases hO : offB x y m with _ | _
          · have HN := Lib.hid (offTo_no HX.out hO)
            have he : exTo (difX x y) m 5 = false := HQ.out.trans hO
            rw [he]
            clear hO he
            go_wp2
            go_roundw
            case rel => exact ⟨k + 1, by omega, by go_num, by rw [HN.out]; exact HO2.out⟩
            case measure => simp [intOf]; omega
          · have HN := Lib.hid (offTo_yes HX.out hO)
            have he : exTo (difX x y) m 5 = true := HQ.out.trans hO
            rw [he]
            clear hO he
            go_wp2_with (at_builtin; refine wpList_append_own_at _ rfl _ _ 42 rfl w.heap.size 3 i0 (.int .i64 0) 1 8 Try.underlying42 hi0 hi1 hi2 hi3 rfl (by decide) _ _ _ rfl ((HO2.out.alloc _).own) ⟨w2.heap.size, 0, none⟩ 1 1 [.int .i64 (k)] rfl rfl ?c1 ?c2 ?c3 ?c4 ?c5 ?_)
            case c2 => first | rfl | (intro u hu; simp at hu; subst hu; rfl)
            case c3 => unfold maxLen; omega
            case c4 => omega
            case c5 => have := HO2.out.gr.size; simp; omega
            intro v' w5 hown5 hg5 _ hat5
            have HN5 := Lib.hid (HO2.out.push hown5 hg5 hat5)
            clear hown5 hg5 hat5
            go_wp2
            go_roundw
            case rel => exact ⟨k + 1, by omega, by go_num, by rw [HN.out]; simpa using HN5.out⟩
            case measure => simp [intOf]; omega
    · obtain rfl : k = n := by omega
      have hbl := hown.to_below (B := w.heap.size) (by omega) (by omega)
      subst hl
      obtain ⟨A, cap, rfl, hwr⟩ := own_wr hown.own
      clear hown
      go_wp2
      go_ret2
      exact ⟨A, cap, rfl, hwr, hbW.trans hbl⟩
theorem specOff_any (A : Option Addr) (n c B : Nat) (xs : List Stk) (y : Stk) (m : Int) (w : World) (hr : Rd cStk 5 w B A n xs) (hB : B ≤ w.heap.size) (hn : n ≤ 1048576) :
    Calls Try.prog 42 #[.slice A n c, .agg #[.int .i64 y.a, .int .i64 y.b, .int .i64 y.c, .int .i64 y.d, .int .i64 y.f], .int .i64 m] w (RetS (offL xs y m) (offOk xs y m) w) := by
  rcases h : offOk xs y m with _ | _
  · rw [offL_no h]
    exact specOff_no A n c B xs y m w hr hB hn h
  · rw [offL_yes h]
    exact specOff_yes A n c B xs y m w hr hB hn h
theorem implOff_any (A : Option Addr) (n c B : Nat) (xs : List Stk) (y : Stk) (m : Int) (w : World) (hr : Rd cStk 5 w B A n xs) (hB : B ≤ w.heap.size) (hn : n ≤ 1048576) :
    Calls Try.prog 43 #[.slice A n c, .agg #[.int .i64 y.a, .int .i64 y.b, .int .i64 y.c, .int .i64 y.d, .int .i64 y.f], .int .i64 m] w (RetS (offL xs y m) (offOk xs y m) w) := by
  rcases h : offOk xs y m with _ | _
  · rw [offL_no h]
    exact implOff_no A n c B xs y m w hr hB hn h
  · rw [offL_yes h]
    exact implOff_yes A n c B xs y m w hr hB hn h
end Go.Proofs.Ytbklljbjggoiaaa
