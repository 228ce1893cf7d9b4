/-
  The standard for strikes: the implementation's contract.
-/
import Derived.Test.YtbklljbjggoiaaaMa15
namespace Go.Proofs.Ytbklljbjggoiaaa
open Go.RowKit
set_option linter.unusedVariables false
attribute [local go_sem ↓] Go.wp_at_zero Go.wp_at_succ
attribute [local go_sem high] run_mn

set_option maxHeartbeats 1000000 in
theorem implStd_any (A : Option Addr) (n c B : Nat) (xs : List Stk) (w : World) (hr : Rd cStk 5 w B A n xs) (hB : B ≤ w.heap.size) (hn : n ≤ 1048576) :
    Calls Try.prog 38 #[.slice A n c] w fun e w' => e = .returned (stdOut xs) ∧ Below w.heap.size w w' := by
  have hl := hr.1
  rcases hL : listB xs with _ | _
  · have HL := Lib.hid hL
    have HF := Lib.hid (std_bad hL)
    clear hL
    go_enter Try.func38, Try.ntmps38
    go_wp2_with (go_at_call 57; refine (areStrikes_any _ _ _ _ xs _ (hr.below ((bl_alloc (Below.refl w.heap.size w) _).mono hB)) (by simp; omega) hn).mono ?_; rw [HL.out]; rintro e w1 ⟨rfl, hb⟩; obtain ⟨hc0, hf0, hz0⟩ := bl_at hb (k := w.heap.size) (by first | assumption | (simp; done) | (simp; omega)))
    refine bodyPost_ret (v := .tuple #[.agg #[.int .i64 0, .int .i64 0, .int .i64 0, .int .i64 0, .int .i64 0], .bool false]) (by simp [results, Try.results38, go_sem, *]) rfl ⟨ret_val HF.out.symm, by repeat (first | (with_reducible exact Below.refl _ _) | (with_reducible assumption) | (with_reducible refine bl_alloc ?_ _) | (with_reducible refine bl_drew ?_) | (with_reducible refine bl_drewN ?_ _) | ((with_reducible refine bl_set ?_ ?hb _); (case hb => first | (simp; done) | omega | (simp; omega))) | (with_reducible refine bl_trans ?_ (by assumption)))⟩
  · have HL := Lib.hid hL
    by_cases h0 : n = 0
    · subst h0
      have HF := Lib.hid (std_nil hl)
      clear hL
      go_enter Try.func38, Try.ntmps38
      go_wp2_with (go_at_call 57; refine (areStrikes_any _ _ _ _ xs _ (hr.below ((bl_alloc (Below.refl w.heap.size w) _).mono hB)) (by simp; omega) hn).mono ?_; rw [HL.out]; rintro e w1 ⟨rfl, hb⟩; obtain ⟨hc0, hf0, hz0⟩ := bl_at hb (k := w.heap.size) (by first | assumption | (simp; done) | (simp; omega)))
      refine bodyPost_ret (v := .tuple #[.agg #[.int .i64 0, .int .i64 0, .int .i64 0, .int .i64 0, .int .i64 0], .bool false]) (by simp [results, Try.results38, go_sem, *]) rfl ⟨ret_val HF.out.symm, by repeat (first | (with_reducible exact Below.refl _ _) | (with_reducible assumption) | (with_reducible refine bl_alloc ?_ _) | (with_reducible refine bl_drew ?_) | (with_reducible refine bl_drewN ?_ _) | ((with_reducible refine bl_set ?_ ?hb _); (case hb => first | (simp; done) | omega | (simp; omega))) | (with_reducible refine bl_trans ?_ (by assumption)))⟩
    · have hn0 : 0 < n := by omega
      have hne0 : ((n : Int) == 0) = false := by simp; omega
      clear hL
      go_enter Try.func38, Try.ntmps38
      go_wp2_with fail
      refine (areStrikes_any _ _ _ _ xs _ (hr.below ((bl_alloc (Below.refl w.heap.size w) _).mono hB)) (by simp; omega) hn).mono ?_
      rw [HL.out]
      rintro e w1 ⟨rfl, hb⟩
      obtain ⟨hc0, hf0, hz0⟩ := bl_at hb (k := w.heap.size) (by first | assumption | (simp; done) | (simp; omega))
      have hb1w : Below w.heap.size w w1 := by repeat (first | (with_reducible exact Below.refl _ _) | (with_reducible assumption) | (with_reducible refine bl_alloc ?_ _) | (with_reducible refine bl_drew ?_) | (with_reducible refine bl_drewN ?_ _) | ((with_reducible refine bl_set ?_ ?hb _); (case hb => first | (simp; done) | omega | (simp; omega))) | (with_reducible refine bl_trans ?_ (by assumption)))
      obtain ⟨b0, off0, x, rfl, hb0B, hx, c0, c1, c2, c3, c4⟩ := (hr.below (hb1w.mono hB)).atStk hn0
      simp only [Nat.zero_mul, Nat.add_zero] at c0 c1 c2 c3 c4
      have HX0 := Lib.hid hx
      clear hx
      go_wp2
      obtain ⟨W, hW⟩ : ∃ W, W = w1.alloc (.cells #[.int .i64 x.a, .int .i64 x.b, .int .i64 x.c, .int .i64 x.d, .int .i64 x.f] 25) := ⟨_, rfl⟩
      have hP0 : ∀ j, j < 5 → W.cell? ⟨w1.heap.size, j, none⟩ = some (.int .i64 (fld x j)) := by
        intro j hj
        rw [hW, World.cell?_alloc_at _ _ _ _ (by simp)]
        match j, hj with
        | 0, _ => rfl
        | 1, _ => rfl
        | 2, _ => rfl
        | 3, _ => rfl
        | 4, _ => rfl
      have hZ0 : ∀ j, W.frozen? ⟨w1.heap.size, j, none⟩ = false := by
        intro j
        rw [hW]
        exact World.frozen?_alloc_new _ _ _ _
      have hR0 : ∀ j, j < 5 → W.cell? ⟨w.heap.size, j, none⟩ = some (.int .i64 0) := by
        intro j hj
        rw [hW, World.cell?_alloc_past _ _ _ (by first | omega | (simp; omega)), hc0, World.cell?_alloc_at _ _ _ _ (by simp)]
        match j, hj with
        | 0, _ => rfl
        | 1, _ => rfl
        | 2, _ => rfl
        | 3, _ => rfl
        | 4, _ => rfl
      have hRZ : ∀ j, W.frozen? ⟨w.heap.size, j, none⟩ = false := by
        intro j
        rw [hW, World.frozen?_alloc_past _ _ _ (by first | omega | (simp; omega)), hf0]
        exact World.frozen?_alloc_new _ _ _ _
      have hWs : W.heap.size = w1.heap.size + 1 := by rw [hW]; simp
      have hbW : Below w.heap.size w W := by rw [hW]; exact by repeat (first | (with_reducible exact Below.refl _ _) | (with_reducible assumption) | (with_reducible refine bl_alloc ?_ _) | (with_reducible refine bl_drew ?_) | (with_reducible refine bl_drewN ?_ _) | ((with_reducible refine bl_set ?_ ?hb _); (case hb => first | (simp; done) | omega | (simp; omega))) | (with_reducible refine bl_trans ?_ (by assumption)))
      rw [← hW]
      have HP0 := Lib.hid hP0
      have HZ0 := Lib.hid hZ0
      have HR0 := Lib.hid hR0
      have HRZ := Lib.hid hRZ
      clear hW hb hc0 hf0 c0 c1 c2 c3 c4 hb1w hP0 hZ0 hR0 hRZ
      go_loopw [21] (fun i wr => ∃ k : Nat, k ≤ n ∧ i = .int .i64 k ∧ W.grownBy wr (some (w1.heap.size)) ∧ Hid (∀ j, j < 5 → wr.cell? ⟨w1.heap.size, j, none⟩ = some (.int .i64 (fld (stdTo xs x k) j))) ∧ Hid (∀ j, wr.frozen? ⟨w1.heap.size, j, none⟩ = false) ∧ Hid ((xs.take k).all (faceB x) = true)) (fun i _ => n - (intOf i).toNat)
      case atStart => exact ⟨0, Nat.zero_le _, rfl, World.grownBy.refl _ _, HP0.out, HZ0.out, rfl⟩
      case round =>
        obtain ⟨k, hk, rfl, hgr, HP, HZ, HA⟩ := hrel
        have hsr := hgr.size
        have hbr : Below w.heap.size w wr := hbW.trans (gr_below hgr (by omega) (by omega))
        have hrr := hr.below (hbr.mono hB)
        obtain ⟨hRc, hRf⟩ := gr_at hgr (k := w.heap.size) (by omega) (by omega)
        have r0 := (hRc 0).trans (HR0.out 0 (by omega))
        have r1 := (hRc 1).trans (HR0.out 1 (by omega))
        have r2 := (hRc 2).trans (HR0.out 2 (by omega))
        have r3 := (hRc 3).trans (HR0.out 3 (by omega))
        have r4 := (hRc 4).trans (HR0.out 4 (by omega))
        have z0 := (hRf 0).trans (HRZ.out 0)
        have z1 := (hRf 1).trans (HRZ.out 1)
        have z2 := (hRf 2).trans (HRZ.out 2)
        have z3 := (hRf 3).trans (HRZ.out 3)
        have z4 := (hRf 4).trans (HRZ.out 4)
        clear hRc hRf
        have hzR : w.heap.size < wr.heap.size := by omega
        have hgR : w1.heap.size < wr.heap.size := by omega
        have hne : w.heap.size ≠ wr.heap.size := by omega
        have hne' : wr.heap.size ≠ w.heap.size := by omega
        by_cases hlt : k < n
        · obtain ⟨b, off, s, he, hbB, hs, d0, d1, d2, d3, d4⟩ := hrr.atStk hlt
          obtain ⟨rfl, rfl⟩ : b0 = b ∧ off0 = off := by simpa using he
          obtain ⟨b1, off1, x1, he1, _, hx1, _, _, c2, _, _⟩ := hrr.atStk hn0
          obtain ⟨rfl, rfl⟩ : b0 = b1 ∧ off0 = off1 := by simpa using he1
          obtain rfl : x = x1 := by rw [HX0.out] at hx1; exact Option.some.inj hx1
          simp only [Nat.zero_mul, Nat.add_zero] at c2
          have HS := Lib.hid hs
          have HG := Lib.hid hgr
          have HBR := Lib.hid hbr
          have hbw : b0 < wr.heap.size := by omega
          have hbn : b0 ≠ wr.heap.size := by omega
          have hbn' : wr.heap.size ≠ b0 := by omega
          have i0 : (0 : Int) ≤ (k : Int) := by omega
          have i1 : (k : Int) < (n : Int) := by omega
          have j1 : (0 : Int) < (n : Int) := by omega
          clear he he1 hs hx1 hgr hbr hrr
          by_cases hf : s.c = x.c
          · have HF := Lib.hid hf
            have HSN := Lib.hid (stdTo_snoc (x := x) HS.out)
            have hfc : s.c = (stdTo xs x k).c := by rw [stdTo_face]; exact hf
            have HFA := Lib.hid (all_snoc (p := faceB x) HS.out HA.out (show faceB x s = true from decide_eq_true HF.out))
            obtain ⟨p, hp⟩ : ∃ p, stdTo xs x k = p := ⟨_, rfl⟩
            rw [hp] at HP HSN hfc
            have hfb : (s.c != p.c) = false := by simp [hfc]
            have p0 : wr.cell? ⟨w1.heap.size, 0, none⟩ = some (.int .i64 p.a) := HP.out 0 (by omega)
            have p1 : wr.cell? ⟨w1.heap.size, 1, none⟩ = some (.int .i64 p.b) := HP.out 1 (by omega)
            have p2 : wr.cell? ⟨w1.heap.size, 2, none⟩ = some (.int .i64 p.c) := HP.out 2 (by omega)
            have p3 : wr.cell? ⟨w1.heap.size, 3, none⟩ = some (.int .i64 p.d) := HP.out 3 (by omega)
            have p4 : wr.cell? ⟨w1.heap.size, 4, none⟩ = some (.int .i64 p.f) := HP.out 4 (by omega)
            have g0 := HZ.out 0
            have g1 := HZ.out 1
            have g2 := HZ.out 2
            have g3 := HZ.out 3
            have g4 := HZ.out 4
            have n1 : w1.heap.size ≠ wr.heap.size := by omega
            have n2 : wr.heap.size ≠ w1.heap.size := by omega
            clear hf hp hfc r0 r1 r2 r3 r4 z0 z1 z2 z3 z4 c2
            go_wp2
            go_roundw
            case rel =>
              refine ⟨k + 1, by omega, by go_num, gr_bl (gr_set (gr_set (gr_set (gr_set (gr_set HG.out _ _) _ _) _ _) _ _) _ _) (bl_alloc (Below.refl _ _) _), fun j hj => ?_, fun j => ?_, HFA.out⟩
              · rw [HSN.out]
                rw [World.cell?_alloc_past _ _ _ (by simp [World.setCell]; omega)]
                match j, hj with
                | 0, _ =>
                  rw [World.cell?_setCell_other _ _ _ _ (by simp), World.cell?_setCell_other _ _ _ _ (by simp), World.cell?_setCell_other _ _ _ _ (by simp), World.cell?_setCell_other _ _ _ _ (by simp)]
                  refine (World.cell?_setCell_same _ _ _ (u := .int .i64 p.a) p0).trans ?_
                  rw [mn_min]; rfl
                | 1, _ =>
                  rw [World.cell?_setCell_other _ _ _ _ (by simp), World.cell?_setCell_other _ _ _ _ (by simp), World.cell?_setCell_other _ _ _ _ (by simp)]
                  refine (World.cell?_setCell_same _ _ _ (u := .int .i64 p.b) (by rw [World.cell?_setCell_other _ _ _ _ (by simp)]; exact p1)).trans ?_
                  rw [mn_min]; rfl
                | 2, _ =>
                  rw [World.cell?_setCell_other _ _ _ _ (by simp), World.cell?_setCell_other _ _ _ _ (by simp)]
                  exact World.cell?_setCell_same _ _ _ (u := .int .i64 p.c) (by rw [World.cell?_setCell_other _ _ _ _ (by simp), World.cell?_setCell_other _ _ _ _ (by simp)]; exact p2)
                | 3, _ =>
                  rw [World.cell?_setCell_other _ _ _ _ (by simp)]
                  refine (World.cell?_setCell_same _ _ _ (u := .int .i64 p.d) (by rw [World.cell?_setCell_other _ _ _ _ (by simp), World.cell?_setCell_other _ _ _ _ (by simp), World.cell?_setCell_other _ _ _ _ (by simp)]; exact p3)).trans ?_
                  rw [mn_min]; rfl
                | 4, _ =>
                  refine (World.cell?_setCell_same _ _ _ (u := .int .i64 p.f) (by rw [World.cell?_setCell_other _ _ _ _ (by simp), World.cell?_setCell_other _ _ _ _ (by simp), World.cell?_setCell_other _ _ _ _ (by simp), World.cell?_setCell_other _ _ _ _ (by simp)]; exact p4)).trans ?_
                  rw [mn_min]; rfl
              · rw [World.frozen?_alloc_past _ _ _ (by simp [World.setCell]; omega), World.frozen?_setCell, World.frozen?_setCell, World.frozen?_setCell, World.frozen?_setCell, World.frozen?_setCell]
                exact HZ.out j
            case measure => simp [intOf]; omega
          · have HF := Lib.hid hf
            have HE := Lib.hid (std_face HX0.out HS.out (show faceB x s = false by simp [faceB, hf]))
            have hfc : ¬ s.c = (stdTo xs x k).c := by rw [stdTo_face]; exact hf
            obtain ⟨p, hp⟩ : ∃ p, stdTo xs x k = p := ⟨_, rfl⟩
            rw [hp] at HP hfc
            have hfb : (s.c != p.c) = true := by simp [hfc]
            have p2 : wr.cell? ⟨w1.heap.size, 2, none⟩ = some (.int .i64 p.c) := HP.out 2 (by omega)
            have n1 : w1.heap.size ≠ wr.heap.size := by omega
            have n2 : wr.heap.size ≠ w1.heap.size := by omega
            clear hf hp hfc
            go_wp2
            have hbx := HBR.out
            (try simp only [Exit.inBlock, Exit.then])
            refine bodyPost_ret (v := .tuple #[.agg #[.int .i64 0, .int .i64 0, .int .i64 0, .int .i64 0, .int .i64 0], .bool false]) (by simp [results, Try.results38, go_sem, *]) rfl ⟨ret_val HE.out.symm, by repeat (first | (with_reducible exact Below.refl _ _) | (with_reducible assumption) | (with_reducible refine bl_alloc ?_ _) | (with_reducible refine bl_drew ?_) | (with_reducible refine bl_drewN ?_ _) | ((with_reducible refine bl_set ?_ ?hb _); (case hb => first | (simp; done) | omega | (simp; omega))) | (with_reducible refine bl_trans ?_ (by assumption)))⟩
        · obtain rfl : k = n := by omega
          have HE := Lib.hid (std_end HX0.out hl HL.out HA.out)
          obtain ⟨p, hp⟩ : ∃ p, stdTo xs x k = p := ⟨_, rfl⟩
          rw [hp] at HP HE
          have HBR := Lib.hid hbr
          clear hp hgr hbr hrr
          have p0 : wr.cell? ⟨w1.heap.size, 0, none⟩ = some (.int .i64 p.a) := HP.out 0 (by omega)
          have p1 : wr.cell? ⟨w1.heap.size, 1, none⟩ = some (.int .i64 p.b) := HP.out 1 (by omega)
          have p2 : wr.cell? ⟨w1.heap.size, 2, none⟩ = some (.int .i64 p.c) := HP.out 2 (by omega)
          have p3 : wr.cell? ⟨w1.heap.size, 3, none⟩ = some (.int .i64 p.d) := HP.out 3 (by omega)
          have p4 : wr.cell? ⟨w1.heap.size, 4, none⟩ = some (.int .i64 p.f) := HP.out 4 (by omega)
          go_wp2
          have hbx := HBR.out
          (try simp only [Exit.inBlock, Exit.then])
          refine bodyPost_ret (v := .tuple #[.agg #[.int .i64 p.a, .int .i64 p.b, .int .i64 p.c, .int .i64 p.d, .int .i64 p.f], .bool true]) (by simp [results, Try.results38, go_sem, *]) rfl ⟨ret_val HE.out.symm, by repeat (first | (with_reducible exact Below.refl _ _) | (with_reducible assumption) | (with_reducible refine bl_alloc ?_ _) | (with_reducible refine bl_drew ?_) | (with_reducible refine bl_drewN ?_ _) | ((with_reducible refine bl_set ?_ ?hb _); (case hb => first | (simp; done) | omega | (simp; omega))) | (with_reducible refine bl_trans ?_ (by assumption)))⟩
end Go.Proofs.Ytbklljbjggoiaaa
