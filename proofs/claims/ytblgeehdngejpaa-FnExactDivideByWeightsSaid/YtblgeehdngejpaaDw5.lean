/-
  impl.DivideByWeights: where it says yes.
-/
import Derived.Test.YtblgeehdngejpaaDw4
import Derived.Test.YtblgeehdngejpaaTko
namespace Go.Proofs.Ytblgeehdngejpaa
open Go.RowKit
set_option linter.unusedVariables false

theorem dv_yes {xs : List Int} {T : Int} (h : dvB xs T = true) : (1 ≤ xs.length ∧ xs.length ≤ 32) ∧ (∀ x ∈ xs, 0 ≤ x ∧ x ≤ 1000000) ∧ (0 ≤ T ∧ T ≤ 100000) ∧ 0 < sumL xs ∧ sumL xs ≤ 32000000 ∧ inB (xs.length : Int) 1 32 = true ∧ inB T 0 100000 = true := by
  unfold dvB at h
  simp only [Bool.and_eq_true, Bool.not_eq_true', beq_eq_false_iff_ne] at h
  obtain ⟨h1, h2, h3, h4⟩ := h
  have hM := allIn_mem h2
  have g1 := inB_iff.1 h1
  have hs := sumTo_bd hM xs.length (Nat.le_refl _)
  have e : sumL xs = sumTo xs xs.length := rfl
  rw [← e] at hs
  exact ⟨by omega, hM, inB_iff.1 h3, by omega, by omega, h1, h3⟩
theorem all_of {xs : List Int} (h : ∀ x ∈ xs, 0 ≤ x ∧ x ≤ 1000000) {k : Nat} {x : Int} (hx : xs[k]? = some x) : inB x 0 1000000 = true := inB_iff.2 (h x (List.mem_of_getElem? hx))
theorem boxed (w : World) (x : Value) (t : TypeId) : (w.alloc (.cells #[x] t)).cell? ⟨w.heap.size, 0, none⟩ = some x := by rw [World.cell?_alloc_new]; rfl
theorem boxes3 {w W : World} {x y z : Value} {t1 t2 t3 : TypeId} (h : W = ((w.alloc (.cells #[x] t1)).alloc (.cells #[y] t2)).alloc (.cells #[z] t3)) : W.heap.size = w.heap.size + 1 + 1 + 1 ∧ W.cell? ⟨w.heap.size, 0, none⟩ = some x ∧ W.cell? ⟨w.heap.size + 1, 0, none⟩ = some y ∧ W.cell? ⟨w.heap.size + 1 + 1, 0, none⟩ = some z ∧ Below w.heap.size w W := by
  subst h
  have e1 : (w.alloc (.cells #[x] t1)).heap.size = w.heap.size + 1 := by simp
  have e2 : ((w.alloc (.cells #[x] t1)).alloc (.cells #[y] t2)).heap.size = w.heap.size + 1 + 1 := by simp
  refine ⟨by simp, ?_, ?_, ?_, bl_alloc (bl_alloc (bl_alloc (Below.refl _ _) _) _) _⟩
  · rw [World.cell?_alloc_lt (h := by rw [e2]; show w.heap.size < _; omega), World.cell?_alloc_lt (h := by rw [e1]; show w.heap.size < _; omega)]; exact boxed w x t1
  · rw [World.cell?_alloc_lt (h := by rw [e2]; show w.heap.size + 1 < _; omega), ← e1]; exact boxed _ y t2
  · rw [← e2]; exact boxed _ z t3
theorem ordr_start (W0 : World) (t : TypeId) : Ordr W0.heap.size (W0.heap.size + 1 + 1) W0 (((W0.alloc (.cells #[] 3)).alloc (.cells #[] 3)).alloc (.cells #[.slice (some ⟨W0.heap.size + 1, 0, none⟩) 0 0] t)) (.slice (some ⟨W0.heap.size + 1, 0, none⟩) 0 0) (.slice (some ⟨W0.heap.size, 0, none⟩) 0 0) (.slice (some ⟨W0.heap.size + 1, 0, none⟩) 0 0) [] [] := by
  have e1 : (W0.alloc (.cells #[] 3)).heap.size = W0.heap.size + 1 := by simp
  have e2 : ((W0.alloc (.cells #[] 3)).alloc (.cells #[] 3)).heap.size = W0.heap.size + 1 + 1 := by simp
  refine ⟨((own_empty (heap_alloc_new W0 _) (Nat.le_refl _)).alloc _).alloc _, World.ownsRow.alloc (own_empty (by have := heap_alloc_new (W0.alloc (.cells #[] 3)) (.cells #[] 3); simpa using this) (by omega)) _, fun g h1 h2 => ?_, ?_, ?_, by simp, by omega, ?_, ?_, bl_alloc (bl_alloc (bl_alloc (Below.refl _ _) _) _) _⟩
  · simp [Value.ownBlock] at h1 h2; omega
  · rw [← e2]; exact boxed _ _ t
  · rw [← e2]; exact World.frozen?_alloc_new _ _ _ _
  · simp [Value.ownBlock]; omega
  · simp [Value.ownBlock]
theorem wr_set {w : World} {base h n i : Nat} {xs : List Int} {y : Int} (hw : Wr w base (some ⟨h, 0, none⟩) n xs) (hi : i < n) : Wr (w.setCell ⟨h, i, none⟩ (.int .i64 y)) base (some ⟨h, 0, none⟩) n (xs.set i y) := by
  have hl := hw.1
  refine ⟨by rw [List.length_set]; exact hl, fun hn => ?_⟩
  obtain ⟨g, e, h1, h2, hc, hf⟩ := hw.2 hn
  obtain rfl : h = g := by simpa using e
  refine ⟨h, rfl, h1, by simpa [World.setCell] using h2, fun k x hx => ?_, fun k => by rw [World.frozen?_setCell]; exact hf k⟩
  by_cases hik : k = i
  · subst hik
    rw [List.getElem?_set_self (by omega)] at hx
    cases hx
    obtain ⟨z, hz⟩ : ∃ z, xs[k]? = some z := ⟨xs[k]'(by omega), List.getElem?_eq_getElem _⟩
    exact World.cell?_setCell_same _ _ _ (hc k z hz)
  · rw [List.getElem?_set_ne (by omega)] at hx
    rw [World.cell?_setCell_other (h := by simp only [ne_eq, Addr.mk.injEq, true_and, and_true]; omega)]
    exact hc k x hx
theorem rets_of {w w' : World} {base n c : Nat} {A : Option Addr} {xs : List Int} {b : Bool} (h : Wr w' base A n xs) (hb : w.heap.size ≤ base) (hbl : Below w.heap.size w w') : RetS xs b w (.returned (.tuple #[.slice A n c, .bool b])) w' := by
  have hl := h.1
  subst hl
  exact ⟨A, c, rfl, ⟨rfl, fun hn => by
    obtain ⟨g, e, q1, q2⟩ := h.2 hn
    exact ⟨g, e, by omega, q2⟩⟩, hbl⟩
theorem addO_next {o : Nat → Nat} {b : List Int} {r : Nat} {x : Int} (h : (addO o b r)[o r]? = some x) : addO o b (r + 1) = (addO o b r).set (o r) (x + 1) := by
  rw [addO, List.getD_eq_getElem?_getD, h]; rfl
set_option maxHeartbeats 8000000 in
theorem implDW_good (A : Option Addr) (n cp : Nat) (xs : List Int) (T : Int) (w : World) (hr : Rd cI 1 w w.heap.size A n xs) (hn : n ≤ 1048576) (hB : dvB xs T = true) :
    Calls Try.prog 6 #[.slice A n cp, .int .i64 T] w (RetS (dvL xs T) (dvB xs T) w) := by
  have hl := hr.1
  obtain ⟨⟨h1, h32⟩, hM, hT, hS, hS2, hi1, hi2⟩ := dv_yes hB
  rw [dvL_yes hB, hB]
  obtain ⟨S, hSS⟩ : ∃ S, sumL xs = S := ⟨_, rfl⟩
  have HLB := left_bd (T := T) (by rw [hSS] at hS; exact hS) hSS (by omega)
  rw [hSS] at hS hS2 ⊢
  rw [hl] at h1 h32 hi1 HLB ⊢
  have H1 := Lib.hid hi1
  have H2 := Lib.hid hi2
  have H3 := Lib.hid hSS
  have HR := Lib.hid hr
  have HM := Lib.hid hM
  have hb3 : (S == 0) = false := by simp; omega
  obtain ⟨i0, hi0, hi1', hi2', hi3⟩ := info_parts infoI
  clear hB hi1 hi2 hSS hM
  go_enter Try.func6, Try.ntmps6
  go_wp2
  go_loopw [17] (fun i wr => ∃ k : Nat, k ≤ n ∧ i = .int .i64 k ∧ wr = (w.alloc (.cells #[.slice A n cp] 22)).alloc (.cells #[.int .i64 T] 3)) (fun i _ => n - (intOf i).toNat)
  case atStart => exact ⟨0, Nat.zero_le _, rfl, rfl⟩
  case round =>
    obtain ⟨k, hk, rfl, rfl⟩ := hrel
    by_cases hlt : k < n
    · obtain ⟨b, off, x, rfl, hbB, hx, hc⟩ := HR.out.atI hlt
      have HI := Lib.hid (all_of HM.out hx)
      clear hx
      go_wp2_with (go_at_call 12; refine (within_any _ _ _ _).mono ?_; rw [HI.out]; rintro e w' ⟨rfl, rfl⟩)
      go_roundw
      case rel => exact ⟨k + 1, by omega, by go_num, trivial⟩
      case measure => simp [intOf]; omega
    · have HRa := Lib.hid (HR.out.bl (bl_alloc (bl_alloc (Below.refl w.heap.size w) (.cells #[.slice A n cp] 22)) (.cells #[.int .i64 T] 3)) (Nat.le_refl _))
      go_wp2_with (first | (go_at_call 13; refine (sum_any _ _ _ _ xs 1000000 _ HRa.out hn (by omega) HM.out).mono ?_; rw [H3.out]; rintro e w' ⟨rfl, rfl⟩) | fail)
      refine (within_any _ _ _ _).mono ?_
      rw [H1.out]
      rintro e w' ⟨rfl, rfl⟩
      go_wp2_with fail
      refine (within_any _ _ _ _).mono ?_
      rw [H2.out]
      rintro e w' ⟨rfl, rfl⟩
      obtain ⟨W0, hW0⟩ : ∃ W0, W0 = ((w.alloc (.cells #[.slice A n cp] 22)).alloc (.cells #[.int .i64 T] 3)).alloc (.cells #[.int .i64 S] 3) := ⟨_, rfl⟩
      obtain ⟨hz0, cw0, ct0, ca0, bw0⟩ := boxes3 hW0
      have BW := Lib.hid bw0
      rw [← hW0]
      clear hW0 HRa bw0
      have HR0 := Lib.hid (HR.out.below BW.out)
      go_wp2
      go_loopw [9, 46] (fun u i wr => ∃ (j : Nat) (v : Value), j ≤ n ∧ i = .int .i64 j ∧ Hid (Ordr (w.heap.size + 1 + 1 + 1) (w.heap.size + 1 + 1 + 1 + 1 + 1) W0 wr v u v ((bsW xs T S).take j) (upto j))) (fun _ i _ => n - (intOf i).toNat)
      case atStart =>
        have h0 := ordr_start W0 22
        rw [hz0] at h0
        exact ⟨0, _, Nat.zero_le _, rfl, Lib.hid h0⟩
      case round =>
        obtain ⟨j, v, hj, rfl, HO⟩ := hrel
        by_cases hlt : j < n
        · have bl := HO.out.bl
          have olt := HO.out.lt
          obtain ⟨b, off, x, rfl, hbB, hx, hc⟩ := (HR0.out.below (bl.mono (by omega))).atI hlt
          have bx := mul_bd hT (HM.out x (List.mem_of_getElem? hx))
          have HT := Lib.hid (take_snoc (bsW_at (T := T) (S := S) hx))
          have hXl : ((bsW xs T S).take j).length = j := by rw [List.length_take, bsW_len]; omega
          obtain ⟨XS, hXS⟩ : ∃ XS, (bsW xs T S).take j = XS := ⟨_, rfl⟩
          rw [hXS] at HO HT hXl
          have hul := upto_len j
          have qb := Int.ediv_le_self S bx.1
          have qb0 : 0 ≤ T * x / S := Int.ediv_nonneg bx.1 (by omega)
          have e1 : IntKind.i64.wrap (T * x) = T * x := IntWalk.i64_in _ (by omega)
          have e2 : (T * x).tdiv S = T * x / S := Int.tdiv_eq_ediv_of_nonneg bx.1
          have e3 : IntKind.i64.wrap (T * x / S) = T * x / S := IntWalk.i64_in _ (by omega)
          have e4 : S ≠ 0 := by omega
          have oc := HO.out.cell
          have ct := (bl.cell (p := ⟨w.heap.size + 1, 0, none⟩) (by show w.heap.size + 1 < _; omega)).trans ct0
          have ca := (bl.cell (p := ⟨w.heap.size + 1 + 1, 0, none⟩) (by show w.heap.size + 1 + 1 < _; omega)).trans ca0
          have j0 : (0 : Int) ≤ (j : Int) := by omega
          have j1 : (j : Int) < (n : Int) := by omega
          have hob := HO.out.b
          rw [upto_len] at hob
          obtain ⟨Av, cv, rfl, _⟩ := own_wr hob
          clear hob
          have y1 : ((wr.alloc (.cells #[.int .i64 (T * x / S)] 3)).alloc (.cells #[.int .i64 (j : Int)] 3)).cell? ⟨w.heap.size + 1 + 1 + 1 + 1 + 1, 0, none⟩ = some (.slice Av j cv) := ((bl_alloc (bl_alloc (Below.refl wr.heap.size wr) (.cells #[.int .i64 (T * x / S)] 3)) (.cells #[.int .i64 (j : Int)] 3)).cell (p := ⟨w.heap.size + 1 + 1 + 1 + 1 + 1, 0, none⟩) olt).trans oc
          have y2 : ((wr.alloc (.cells #[.int .i64 (j : Int)] 3)).alloc (.cells #[.int .i64 (T * x / S)] 3)).cell? ⟨w.heap.size + 1 + 1 + 1 + 1 + 1, 0, none⟩ = some (.slice Av j cv) := ((bl_alloc (bl_alloc (Below.refl wr.heap.size wr) (.cells #[.int .i64 (j : Int)] 3)) (.cells #[.int .i64 (T * x / S)] 3)).cell (p := ⟨w.heap.size + 1 + 1 + 1 + 1 + 1, 0, none⟩) olt).trans oc
          clear hx hXS
          go_wp2_with fail
          refine wp_region_noPanic ?_
          refine wp_region_held_drew (S := (fun w' => w'.cell? ⟨w.heap.size + 1, 0, none⟩ = some (.int .i64 T) ∧ w'.cell? ⟨w.heap.size + 1 + 1, 0, none⟩ = some (.int .i64 S))) (by kernel_rfl) (by (try dsimp only); go_keep) (fun hHeld => ?_)
          refine take_of (some 51) (i := 0) (v := ?vq1_0) rfl rfl (by kernel_rfl) (by kernel_rfl) (by kernel_rfl) (fun _ _ _ h => h) (Or.inl ⟨by rfl, ?hyq1_0⟩) (by assumption) ?restq1_0
          case hyq1_0 => (intro w hSw; (try dsimp only at hSw); go_simp; try with_reducible rfl)
          try simp only [Act.put, List.setIfInBounds_toArray, List.set_cons_zero, List.set_cons_succ]
          refine take_of (some 52) (i := 1) (v := ?vq1_1) rfl rfl (by kernel_rfl) (by kernel_rfl) (by kernel_rfl) (fun _ _ _ h => h) (Or.inl ⟨by rfl, ?hyq1_1⟩) (by assumption) ?restq1_1
          case hyq1_1 => (intro w hSw; (try dsimp only at hSw); go_simp; try with_reducible rfl)
          try simp only [Act.put, List.setIfInBounds_toArray, List.set_cons_zero, List.set_cons_succ]
          refine take_of (some 53) (i := 2) (v := ?vq1_2) rfl rfl (by kernel_rfl) (by kernel_rfl) (by kernel_rfl) (fun _ _ _ h => h) (Or.inl ⟨by rfl, ?hyq1_2⟩) (by assumption) ?restq1_2
          case hyq1_2 => (intro w hSw; (try dsimp only at hSw); go_simp; try with_reducible rfl)
          try simp only [Act.put, List.setIfInBounds_toArray, List.set_cons_zero, List.set_cons_succ]
          refine take_of (some 54) (i := 3) (v := ?vq1_3) rfl rfl (by kernel_rfl) (by kernel_rfl) (by kernel_rfl) (fun _ _ _ h => h) (Or.inl ⟨by rfl, ?hyq1_3⟩) (by assumption) ?restq1_3
          case hyq1_3 => (intro w hSw; (try dsimp only at hSw); go_simp; try with_reducible rfl)
          try simp only [Act.put, List.setIfInBounds_toArray, List.set_cons_zero, List.set_cons_succ]
          refine take_of (some 55) (i := 4) (v := ?vq1_4) rfl rfl (by kernel_rfl) (by kernel_rfl) (by kernel_rfl) (fun _ _ _ h => h) (Or.inl ⟨by rfl, ?hyq1_4⟩) (by assumption) ?restq1_4
          case hyq1_4 => (intro w hSw; (try dsimp only at hSw); go_simp; try with_reducible rfl)
          try simp only [Act.put, List.setIfInBounds_toArray, List.set_cons_zero, List.set_cons_succ]
          refine take_of (some 56) (i := 5) (v := ?vq1_5) rfl rfl (by kernel_rfl) (by kernel_rfl) (by kernel_rfl) (fun _ _ _ h => h) (Or.inl ⟨by rfl, ?hyq1_5⟩) (by assumption) ?restq1_5
          case hyq1_5 => (intro w hSw; (try dsimp only at hSw); go_simp; try with_reducible rfl)
          try simp only [Act.put, List.setIfInBounds_toArray, List.set_cons_zero, List.set_cons_succ]
          refine take_of (some 60) (i := 9) (v := ?vq1_9) rfl rfl (by kernel_rfl) (by kernel_rfl) (by kernel_rfl) (fun _ _ _ h => h) (Or.inl ⟨by rfl, ?hyq1_9⟩) (by assumption) ?restq1_9
          case hyq1_9 => (intro w hSw; (try dsimp only at hSw); go_simp; try with_reducible rfl)
          try simp only [Act.put, List.setIfInBounds_toArray, List.set_cons_zero, List.set_cons_succ]
          refine wpAnyH_ready (rs := [6,8,10]) (by kernel_rfl) (by simp) ?_
          refine AllReadyH.cons rfl (fun K hK => ?_) (AllReadyH.cons rfl (fun K hK => ?_) (AllReadyH.cons rfl (fun K hK => ?_) (AllReadyH.nil)))
          · go_simp
            (skip)
            go_wp2_with fail
            refine hK.out _ _ (by (try dsimp only); go_keep) (fun hHeld => ?_)
            clear hK K
            try simp only [Act.put, List.setIfInBounds_toArray, List.set_cons_zero, List.set_cons_succ]
            refine wpAnyH_ready (rs := [7,8,10]) (by kernel_rfl) (by simp) ?_
            refine AllReadyH.cons rfl (fun K hK => ?_) (AllReadyH.cons rfl (fun K hK => ?_) (AllReadyH.cons rfl (fun K hK => ?_) (AllReadyH.nil)))
            · rw [if_pos (by rfl)]
              (have hy0 := HO.out.below (bl_alloc (bl_drew (Below.refl wr.heap.size wr)) (.cells #[.int .i64 (T * x / S)] 3)); refine wp_append_own1 _ (.tmp 51) (.tmp 57) 22 (by rfl) (w.heap.size + 1 + 1 + 1) 3 i0 Try.underlying22 hi0 hi1' hi2' hi3 u9 XS.length (XS.map (Value.int .i64)) (by rfl) hy0.a ⟨wr.heap.size, 0, none⟩ (T * x / S) (by rfl) (by simp) (by omega) (by first | omega | (simp; omega)) ?_; intro u1 w3 hown3 hg3 hat3; have hy3 := hy0.left hown3 hg3 hat3; have o3 := hy3.cell; have f3 := hy3.frz; have l3 := hy3.lt; have t3 := (hy3.bl.cell (p := ⟨w.heap.size + 1, 0, none⟩) (by show w.heap.size + 1 < _; omega)).trans ct0; have a3 := (hy3.bl.cell (p := ⟨w.heap.size + 1 + 1, 0, none⟩) (by show w.heap.size + 1 + 1 < _; omega)).trans ca0; have HO3 := Lib.hid hy3; have s3 : wr.heap.size + 1 ≤ w3.heap.size := (by have := hg3.size; simpa using this); clear hown3 hg3 hat3 hy0 hy3)
              refine hK.out _ _ (by (try dsimp only); go_keep) (fun hHeld => ?_)
              clear hK K
              try simp only [Act.put, List.setIfInBounds_toArray, List.set_cons_zero, List.set_cons_succ]
              refine wpAnyH_ready (rs := [8,10]) (by kernel_rfl) (by simp) ?_
              refine AllReadyH.cons rfl (fun K hK => ?_) (AllReadyH.cons rfl (fun K hK => ?_) (AllReadyH.nil))
              · go_simp
                (skip)
                go_wp2_with fail
                refine hK.out _ _ (by (try dsimp only); go_keep) (fun hHeld => ?_)
                clear hK K
                try simp only [Act.put, List.setIfInBounds_toArray, List.set_cons_zero, List.set_cons_succ]
                refine wpAnyH_ready (rs := [10]) (by kernel_rfl) (by simp) ?_
                refine AllReadyH.cons rfl (fun K hK => ?_) AllReadyH.nil
                go_simp
                (skip)
                go_wp2_with fail
                refine hK.out _ _ (by (try dsimp only); go_keep) (fun hHeld => ?_)
                clear hK K
                try simp only [Act.put, List.setIfInBounds_toArray, List.set_cons_zero, List.set_cons_succ]
                refine wpAnyH_ready (rs := [11]) (by kernel_rfl) (by simp) ?_
                refine AllReadyH.cons rfl (fun K hK => ?_) AllReadyH.nil
                rw [if_pos (by rfl)]
                (have hy1 := HO3.out.below (bl_alloc (Below.refl w3.heap.size w3) (.cells #[.int .i64 (j : Int)] 3)); refine wp_append_own1 _ (.tmp 59) (.tmp 61) 22 (by rfl) (w.heap.size + 1 + 1 + 1) 3 i0 Try.underlying22 hi0 hi1' hi2' hi3 (.slice Av j cv) (upto j).length ((upto j).map (Value.int .i64)) (by rfl) hy1.b ⟨w3.heap.size, 0, none⟩ (j : Int) (by rfl) (by simp) (by omega) (by first | omega | (simp; omega)) ?_; intro v1 w5 hown5 hg5 hat5; have hy5 := hy1.right hown5 hg5 hat5; have hb5 := hy5.b; rw [← upto_succ, upto_len] at hb5; obtain ⟨A5, c5, rfl, _⟩ := own_wr hb5; clear hb5; have o5 := hy5.cell; have f5 := hy5.frz; have l5 := hy5.lt; have t5 := (hy5.bl.cell (p := ⟨w.heap.size + 1, 0, none⟩) (by show w.heap.size + 1 < _; omega)).trans ct0; have a5 := (hy5.bl.cell (p := ⟨w.heap.size + 1 + 1, 0, none⟩) (by show w.heap.size + 1 + 1 < _; omega)).trans ca0; have t6 : (w5.setCell ⟨w.heap.size + 1 + 1 + 1 + 1 + 1, 0, none⟩ (.slice A5 (j + 1) c5)).cell? ⟨w.heap.size + 1, 0, none⟩ = some (.int .i64 T) := (World.cell?_setCell_far _ _ _ _ (by show w.heap.size + 1 + 1 + 1 + 1 + 1 ≠ w.heap.size + 1; omega)).trans t5; have a6 : (w5.setCell ⟨w.heap.size + 1 + 1 + 1 + 1 + 1, 0, none⟩ (.slice A5 (j + 1) c5)).cell? ⟨w.heap.size + 1 + 1, 0, none⟩ = some (.int .i64 S) := (World.cell?_setCell_far _ _ _ _ (by show w.heap.size + 1 + 1 + 1 + 1 + 1 ≠ w.heap.size + 1 + 1; omega)).trans a5; have HO5 := Lib.hid hy5; clear hown5 hg5 hat5 hy5)
                refine hK.out _ _ (by (try dsimp only); go_keep) (fun hHeld => ?_)
                clear hK K
                try simp only [Act.put, List.setIfInBounds_toArray, List.set_cons_zero, List.set_cons_succ]
                refine take_of (some 9) (i := 12) (v := ?vq4_12) rfl rfl (by kernel_rfl) (by kernel_rfl) (by kernel_rfl) (fun _ _ _ h => h) (Or.inl ⟨by rfl, ?hyq4_12⟩) (by assumption) ?restq4_12
                case hyq4_12 => (intro w hSw; (try dsimp only at hSw); go_simp; try with_reducible rfl)
                try simp only [Act.put, List.setIfInBounds_toArray, List.set_cons_zero, List.set_cons_succ]
                refine wpAnyH_ready (rs := [13]) (by kernel_rfl) (by simp) ?_
                refine AllReadyH.cons rfl (fun K hK => ?_) AllReadyH.nil
                go_simp
                (skip)
                go_wp2_with fail
                refine hK.out _ _ (by (try dsimp only); go_keep) (fun hHeld => ?_)
                clear hK K
                try simp only [Act.put, List.setIfInBounds_toArray, List.set_cons_zero, List.set_cons_succ]
                refine wpAnyH_done (by kernel_rfl) ?_ _
                refine NoPanic.normal ?_
                go_wp2
                go_roundw
                case rel => exact ⟨j + 1, _, by omega, by go_num, Lib.hid (by rw [HT.out, upto_succ]; exact HO5.out.store)⟩
                case measure => simp [intOf]; omega
              · go_simp
                (skip)
                go_wp2_with fail
                refine hK.out _ _ (by (try dsimp only); go_keep) (fun hHeld => ?_)
                clear hK K
                try simp only [Act.put, List.setIfInBounds_toArray, List.set_cons_zero, List.set_cons_succ]
                refine wpAnyH_ready (rs := [8]) (by kernel_rfl) (by simp) ?_
                refine AllReadyH.cons rfl (fun K hK => ?_) AllReadyH.nil
                go_simp
                (skip)
                go_wp2_with fail
                refine hK.out _ _ (by (try dsimp only); go_keep) (fun hHeld => ?_)
                clear hK K
                try simp only [Act.put, List.setIfInBounds_toArray, List.set_cons_zero, List.set_cons_succ]
                refine wpAnyH_ready (rs := [11]) (by kernel_rfl) (by simp) ?_
                refine AllReadyH.cons rfl (fun K hK => ?_) AllReadyH.nil
                rw [if_pos (by rfl)]
                (have hy1 := HO3.out.below (bl_alloc (Below.refl w3.heap.size w3) (.cells #[.int .i64 (j : Int)] 3)); refine wp_append_own1 _ (.tmp 59) (.tmp 61) 22 (by rfl) (w.heap.size + 1 + 1 + 1) 3 i0 Try.underlying22 hi0 hi1' hi2' hi3 (.slice Av j cv) (upto j).length ((upto j).map (Value.int .i64)) (by rfl) hy1.b ⟨w3.heap.size, 0, none⟩ (j : Int) (by rfl) (by simp) (by omega) (by first | omega | (simp; omega)) ?_; intro v1 w5 hown5 hg5 hat5; have hy5 := hy1.right hown5 hg5 hat5; have hb5 := hy5.b; rw [← upto_succ, upto_len] at hb5; obtain ⟨A5, c5, rfl, _⟩ := own_wr hb5; clear hb5; have o5 := hy5.cell; have f5 := hy5.frz; have l5 := hy5.lt; have t5 := (hy5.bl.cell (p := ⟨w.heap.size + 1, 0, none⟩) (by show w.heap.size + 1 < _; omega)).trans ct0; have a5 := (hy5.bl.cell (p := ⟨w.heap.size + 1 + 1, 0, none⟩) (by show w.heap.size + 1 + 1 < _; omega)).trans ca0; have t6 : (w5.setCell ⟨w.heap.size + 1 + 1 + 1 + 1 + 1, 0, none⟩ (.slice A5 (j + 1) c5)).cell? ⟨w.heap.size + 1, 0, none⟩ = some (.int .i64 T) := (World.cell?_setCell_far _ _ _ _ (by show w.heap.size + 1 + 1 + 1 + 1 + 1 ≠ w.heap.size + 1; omega)).trans t5; have a6 : (w5.setCell ⟨w.heap.size + 1 + 1 + 1 + 1 + 1, 0, none⟩ (.slice A5 (j + 1) c5)).cell? ⟨w.heap.size + 1 + 1, 0, none⟩ = some (.int .i64 S) := (World.cell?_setCell_far _ _ _ _ (by show w.heap.size + 1 + 1 + 1 + 1 + 1 ≠ w.heap.size + 1 + 1; omega)).trans a5; have HO5 := Lib.hid hy5; clear hown5 hg5 hat5 hy5)
                refine hK.out _ _ (by (try dsimp only); go_keep) (fun hHeld => ?_)
                clear hK K
                try simp only [Act.put, List.setIfInBounds_toArray, List.set_cons_zero, List.set_cons_succ]
                refine take_of (some 9) (i := 12) (v := ?vq5_12) rfl rfl (by kernel_rfl) (by kernel_rfl) (by kernel_rfl) (fun _ _ _ h => h) (Or.inl ⟨by rfl, ?hyq5_12⟩) (by assumption) ?restq5_12
                case hyq5_12 => (intro w hSw; (try dsimp only at hSw); go_simp; try with_reducible rfl)
                try simp only [Act.put, List.setIfInBounds_toArray, List.set_cons_zero, List.set_cons_succ]
                refine wpAnyH_ready (rs := [13]) (by kernel_rfl) (by simp) ?_
                refine AllReadyH.cons rfl (fun K hK => ?_) AllReadyH.nil
                go_simp
                (skip)
                go_wp2_with fail
                refine hK.out _ _ (by (try dsimp only); go_keep) (fun hHeld => ?_)
                clear hK K
                try simp only [Act.put, List.setIfInBounds_toArray, List.set_cons_zero, List.set_cons_succ]
                refine wpAnyH_done (by kernel_rfl) ?_ _
                refine NoPanic.normal ?_
                go_wp2
                go_roundw
                case rel => exact ⟨j + 1, _, by omega, by go_num, Lib.hid (by rw [HT.out, upto_succ]; exact HO5.out.store)⟩
                case measure => simp [intOf]; omega
            · go_simp
              (skip)
              go_wp2_with fail
              refine hK.out _ _ (by (try dsimp only); go_keep) (fun hHeld => ?_)
              clear hK K
              try simp only [Act.put, List.setIfInBounds_toArray, List.set_cons_zero, List.set_cons_succ]
              refine wpAnyH_ready (rs := [7,10]) (by kernel_rfl) (by simp) ?_
              refine AllReadyH.cons rfl (fun K hK => ?_) (AllReadyH.cons rfl (fun K hK => ?_) (AllReadyH.nil))
              · rw [if_pos (by rfl)]
                (have hy0 := HO.out.below (bl_alloc (bl_drew (Below.refl wr.heap.size wr)) (.cells #[.int .i64 (T * x / S)] 3)); refine wp_append_own1 _ (.tmp 51) (.tmp 57) 22 (by rfl) (w.heap.size + 1 + 1 + 1) 3 i0 Try.underlying22 hi0 hi1' hi2' hi3 u9 XS.length (XS.map (Value.int .i64)) (by rfl) hy0.a ⟨wr.heap.size, 0, none⟩ (T * x / S) (by rfl) (by simp) (by omega) (by first | omega | (simp; omega)) ?_; intro u1 w3 hown3 hg3 hat3; have hy3 := hy0.left hown3 hg3 hat3; have o3 := hy3.cell; have f3 := hy3.frz; have l3 := hy3.lt; have t3 := (hy3.bl.cell (p := ⟨w.heap.size + 1, 0, none⟩) (by show w.heap.size + 1 < _; omega)).trans ct0; have a3 := (hy3.bl.cell (p := ⟨w.heap.size + 1 + 1, 0, none⟩) (by show w.heap.size + 1 + 1 < _; omega)).trans ca0; have HO3 := Lib.hid hy3; have s3 : wr.heap.size + 1 ≤ w3.heap.size := (by have := hg3.size; simpa using this); clear hown3 hg3 hat3 hy0 hy3)
                refine hK.out _ _ (by (try dsimp only); go_keep) (fun hHeld => ?_)
                clear hK K
                try simp only [Act.put, List.setIfInBounds_toArray, List.set_cons_zero, List.set_cons_succ]
                refine wpAnyH_ready (rs := [10]) (by kernel_rfl) (by simp) ?_
                refine AllReadyH.cons rfl (fun K hK => ?_) AllReadyH.nil
                go_simp
                (skip)
                go_wp2_with fail
                refine hK.out _ _ (by (try dsimp only); go_keep) (fun hHeld => ?_)
                clear hK K
                try simp only [Act.put, List.setIfInBounds_toArray, List.set_cons_zero, List.set_cons_succ]
                refine wpAnyH_ready (rs := [11]) (by kernel_rfl) (by simp) ?_
                refine AllReadyH.cons rfl (fun K hK => ?_) AllReadyH.nil
                rw [if_pos (by rfl)]
                (have hy1 := HO3.out.below (bl_alloc (Below.refl w3.heap.size w3) (.cells #[.int .i64 (j : Int)] 3)); refine wp_append_own1 _ (.tmp 59) (.tmp 61) 22 (by rfl) (w.heap.size + 1 + 1 + 1) 3 i0 Try.underlying22 hi0 hi1' hi2' hi3 (.slice Av j cv) (upto j).length ((upto j).map (Value.int .i64)) (by rfl) hy1.b ⟨w3.heap.size, 0, none⟩ (j : Int) (by rfl) (by simp) (by omega) (by first | omega | (simp; omega)) ?_; intro v1 w5 hown5 hg5 hat5; have hy5 := hy1.right hown5 hg5 hat5; have hb5 := hy5.b; rw [← upto_succ, upto_len] at hb5; obtain ⟨A5, c5, rfl, _⟩ := own_wr hb5; clear hb5; have o5 := hy5.cell; have f5 := hy5.frz; have l5 := hy5.lt; have t5 := (hy5.bl.cell (p := ⟨w.heap.size + 1, 0, none⟩) (by show w.heap.size + 1 < _; omega)).trans ct0; have a5 := (hy5.bl.cell (p := ⟨w.heap.size + 1 + 1, 0, none⟩) (by show w.heap.size + 1 + 1 < _; omega)).trans ca0; have t6 : (w5.setCell ⟨w.heap.size + 1 + 1 + 1 + 1 + 1, 0, none⟩ (.slice A5 (j + 1) c5)).cell? ⟨w.heap.size + 1, 0, none⟩ = some (.int .i64 T) := (World.cell?_setCell_far _ _ _ _ (by show w.heap.size + 1 + 1 + 1 + 1 + 1 ≠ w.heap.size + 1; omega)).trans t5; have a6 : (w5.setCell ⟨w.heap.size + 1 + 1 + 1 + 1 + 1, 0, none⟩ (.slice A5 (j + 1) c5)).cell? ⟨w.heap.size + 1 + 1, 0, none⟩ = some (.int .i64 S) := (World.cell?_setCell_far _ _ _ _ (by show w.heap.size + 1 + 1 + 1 + 1 + 1 ≠ w.heap.size + 1 + 1; omega)).trans a5; have HO5 := Lib.hid hy5; clear hown5 hg5 hat5 hy5)
                refine hK.out _ _ (by (try dsimp only); go_keep) (fun hHeld => ?_)
                clear hK K
                try simp only [Act.put, List.setIfInBounds_toArray, List.set_cons_zero, List.set_cons_succ]
                refine take_of (some 9) (i := 12) (v := ?vq7_12) rfl rfl (by kernel_rfl) (by kernel_rfl) (by kernel_rfl) (fun _ _ _ h => h) (Or.inl ⟨by rfl, ?hyq7_12⟩) (by assumption) ?restq7_12
                case hyq7_12 => (intro w hSw; (try dsimp only at hSw); go_simp; try with_reducible rfl)
                try simp only [Act.put, List.setIfInBounds_toArray, List.set_cons_zero, List.set_cons_succ]
                refine wpAnyH_ready (rs := [13]) (by kernel_rfl) (by simp) ?_
                refine AllReadyH.cons rfl (fun K hK => ?_) AllReadyH.nil
                go_simp
                (skip)
                go_wp2_with fail
                refine hK.out _ _ (by (try dsimp only); go_keep) (fun hHeld => ?_)
                clear hK K
                try simp only [Act.put, List.setIfInBounds_toArray, List.set_cons_zero, List.set_cons_succ]
                refine wpAnyH_done (by kernel_rfl) ?_ _
                refine NoPanic.normal ?_
                go_wp2
                go_roundw
                case rel => exact ⟨j + 1, _, by omega, by go_num, Lib.hid (by rw [HT.out, upto_succ]; exact HO5.out.store)⟩
                case measure => simp [intOf]; omega
              · go_simp
                (skip)
                go_wp2_with fail
                refine hK.out _ _ (by (try dsimp only); go_keep) (fun hHeld => ?_)
                clear hK K
                try simp only [Act.put, List.setIfInBounds_toArray, List.set_cons_zero, List.set_cons_succ]
                refine wpAnyH_ready (rs := [7]) (by kernel_rfl) (by simp) ?_
                refine AllReadyH.cons rfl (fun K hK => ?_) AllReadyH.nil
                rw [if_pos (by rfl)]
                (have hy0 := HO.out.below (bl_alloc (bl_alloc (bl_drew (Below.refl wr.heap.size wr)) (.cells #[.int .i64 (T * x / S)] 3)) (.cells #[.int .i64 (j : Int)] 3)); refine wp_append_own1 _ (.tmp 51) (.tmp 57) 22 (by rfl) (w.heap.size + 1 + 1 + 1) 3 i0 Try.underlying22 hi0 hi1' hi2' hi3 u9 XS.length (XS.map (Value.int .i64)) (by rfl) hy0.a ⟨wr.heap.size, 0, none⟩ (T * x / S) (by rfl) (by simp) (by omega) (by first | omega | (simp; omega)) ?_; intro u1 w3 hown3 hg3 hat3; have hy3 := hy0.left hown3 hg3 hat3; have o3 := hy3.cell; have f3 := hy3.frz; have l3 := hy3.lt; have t3 := (hy3.bl.cell (p := ⟨w.heap.size + 1, 0, none⟩) (by show w.heap.size + 1 < _; omega)).trans ct0; have a3 := (hy3.bl.cell (p := ⟨w.heap.size + 1 + 1, 0, none⟩) (by show w.heap.size + 1 + 1 < _; omega)).trans ca0; have hc3 : w3.cell? ⟨wr.heap.size + 1, 0, none⟩ = some (.int .i64 (j : Int)) := (World.cell?_of_block (hg3.block (wr.heap.size + 1) (by first | omega | (simp; done) | (simp; omega)) (fun e => by have := (HO.out.a.lt _ e.symm).2; omega))).trans (by simp); have HO3 := Lib.hid hy3; have s3 : wr.heap.size + 2 ≤ w3.heap.size := (by have := hg3.size; simpa using this); clear hown3 hg3 hat3 hy0 hy3)
                refine hK.out _ _ (by (try dsimp only); go_keep) (fun hHeld => ?_)
                clear hK K
                try simp only [Act.put, List.setIfInBounds_toArray, List.set_cons_zero, List.set_cons_succ]
                refine wpAnyH_ready (rs := [11]) (by kernel_rfl) (by simp) ?_
                refine AllReadyH.cons rfl (fun K hK => ?_) AllReadyH.nil
                rw [if_pos (by rfl)]
                (refine wp_append_own1 _ (.tmp 59) (.tmp 61) 22 (by rfl) (w.heap.size + 1 + 1 + 1) 3 i0 Try.underlying22 hi0 hi1' hi2' hi3 (.slice Av j cv) (upto j).length ((upto j).map (Value.int .i64)) (by rfl) HO3.out.b ⟨wr.heap.size + 1, 0, none⟩ (j : Int) (by rfl) (hc3) (by omega) (by first | omega | (simp; omega)) ?_; intro v1 w5 hown5 hg5 hat5; have hy5 := HO3.out.right hown5 hg5 hat5; have hb5 := hy5.b; rw [← upto_succ, upto_len] at hb5; obtain ⟨A5, c5, rfl, _⟩ := own_wr hb5; clear hb5; have o5 := hy5.cell; have f5 := hy5.frz; have l5 := hy5.lt; have t5 := (hy5.bl.cell (p := ⟨w.heap.size + 1, 0, none⟩) (by show w.heap.size + 1 < _; omega)).trans ct0; have a5 := (hy5.bl.cell (p := ⟨w.heap.size + 1 + 1, 0, none⟩) (by show w.heap.size + 1 + 1 < _; omega)).trans ca0; have t6 : (w5.setCell ⟨w.heap.size + 1 + 1 + 1 + 1 + 1, 0, none⟩ (.slice A5 (j + 1) c5)).cell? ⟨w.heap.size + 1, 0, none⟩ = some (.int .i64 T) := (World.cell?_setCell_far _ _ _ _ (by show w.heap.size + 1 + 1 + 1 + 1 + 1 ≠ w.heap.size + 1; omega)).trans t5; have a6 : (w5.setCell ⟨w.heap.size + 1 + 1 + 1 + 1 + 1, 0, none⟩ (.slice A5 (j + 1) c5)).cell? ⟨w.heap.size + 1 + 1, 0, none⟩ = some (.int .i64 S) := (World.cell?_setCell_far _ _ _ _ (by show w.heap.size + 1 + 1 + 1 + 1 + 1 ≠ w.heap.size + 1 + 1; omega)).trans a5; have HO5 := Lib.hid hy5; clear hown5 hg5 hat5 hy5)
                refine hK.out _ _ (by (try dsimp only); go_keep) (fun hHeld => ?_)
                clear hK K
                try simp only [Act.put, List.setIfInBounds_toArray, List.set_cons_zero, List.set_cons_succ]
                refine take_of (some 9) (i := 12) (v := ?vq8_12) rfl rfl (by kernel_rfl) (by kernel_rfl) (by kernel_rfl) (fun _ _ _ h => h) (Or.inl ⟨by rfl, ?hyq8_12⟩) (by assumption) ?restq8_12
                case hyq8_12 => (intro w hSw; (try dsimp only at hSw); go_simp; try with_reducible rfl)
                try simp only [Act.put, List.setIfInBounds_toArray, List.set_cons_zero, List.set_cons_succ]
                refine wpAnyH_ready (rs := [13]) (by kernel_rfl) (by simp) ?_
                refine AllReadyH.cons rfl (fun K hK => ?_) AllReadyH.nil
                go_simp
                (skip)
                go_wp2_with fail
                refine hK.out _ _ (by (try dsimp only); go_keep) (fun hHeld => ?_)
                clear hK K
                try simp only [Act.put, List.setIfInBounds_toArray, List.set_cons_zero, List.set_cons_succ]
                refine wpAnyH_done (by kernel_rfl) ?_ _
                refine NoPanic.normal ?_
                go_wp2
                go_roundw
                case rel => exact ⟨j + 1, _, by omega, by go_num, Lib.hid (by rw [HT.out, upto_succ]; exact HO5.out.store)⟩
                case measure => simp [intOf]; omega
            · go_simp
              (skip)
              go_wp2_with fail
              refine hK.out _ _ (by (try dsimp only); go_keep) (fun hHeld => ?_)
              clear hK K
              try simp only [Act.put, List.setIfInBounds_toArray, List.set_cons_zero, List.set_cons_succ]
              refine wpAnyH_ready (rs := [7,8]) (by kernel_rfl) (by simp) ?_
              refine AllReadyH.cons rfl (fun K hK => ?_) (AllReadyH.cons rfl (fun K hK => ?_) (AllReadyH.nil))
              · rw [if_pos (by rfl)]
                (have hy0 := HO.out.below (bl_alloc (bl_alloc (bl_drew (Below.refl wr.heap.size wr)) (.cells #[.int .i64 (T * x / S)] 3)) (.cells #[.int .i64 (j : Int)] 3)); refine wp_append_own1 _ (.tmp 51) (.tmp 57) 22 (by rfl) (w.heap.size + 1 + 1 + 1) 3 i0 Try.underlying22 hi0 hi1' hi2' hi3 u9 XS.length (XS.map (Value.int .i64)) (by rfl) hy0.a ⟨wr.heap.size, 0, none⟩ (T * x / S) (by rfl) (by simp) (by omega) (by first | omega | (simp; omega)) ?_; intro u1 w3 hown3 hg3 hat3; have hy3 := hy0.left hown3 hg3 hat3; have o3 := hy3.cell; have f3 := hy3.frz; have l3 := hy3.lt; have t3 := (hy3.bl.cell (p := ⟨w.heap.size + 1, 0, none⟩) (by show w.heap.size + 1 < _; omega)).trans ct0; have a3 := (hy3.bl.cell (p := ⟨w.heap.size + 1 + 1, 0, none⟩) (by show w.heap.size + 1 + 1 < _; omega)).trans ca0; have hc3 : w3.cell? ⟨wr.heap.size + 1, 0, none⟩ = some (.int .i64 (j : Int)) := (World.cell?_of_block (hg3.block (wr.heap.size + 1) (by first | omega | (simp; done) | (simp; omega)) (fun e => by have := (HO.out.a.lt _ e.symm).2; omega))).trans (by simp); have HO3 := Lib.hid hy3; have s3 : wr.heap.size + 2 ≤ w3.heap.size := (by have := hg3.size; simpa using this); clear hown3 hg3 hat3 hy0 hy3)
                refine hK.out _ _ (by (try dsimp only); go_keep) (fun hHeld => ?_)
                clear hK K
                try simp only [Act.put, List.setIfInBounds_toArray, List.set_cons_zero, List.set_cons_succ]
                refine wpAnyH_ready (rs := [8]) (by kernel_rfl) (by simp) ?_
                refine AllReadyH.cons rfl (fun K hK => ?_) AllReadyH.nil
                go_simp
                (skip)
                go_wp2_with fail
                refine hK.out _ _ (by (try dsimp only); go_keep) (fun hHeld => ?_)
                clear hK K
                try simp only [Act.put, List.setIfInBounds_toArray, List.set_cons_zero, List.set_cons_succ]
                refine wpAnyH_ready (rs := [11]) (by kernel_rfl) (by simp) ?_
                refine AllReadyH.cons rfl (fun K hK => ?_) AllReadyH.nil
                rw [if_pos (by rfl)]
                (refine wp_append_own1 _ (.tmp 59) (.tmp 61) 22 (by rfl) (w.heap.size + 1 + 1 + 1) 3 i0 Try.underlying22 hi0 hi1' hi2' hi3 (.slice Av j cv) (upto j).length ((upto j).map (Value.int .i64)) (by rfl) HO3.out.b ⟨wr.heap.size + 1, 0, none⟩ (j : Int) (by rfl) (hc3) (by omega) (by first | omega | (simp; omega)) ?_; intro v1 w5 hown5 hg5 hat5; have hy5 := HO3.out.right hown5 hg5 hat5; have hb5 := hy5.b; rw [← upto_succ, upto_len] at hb5; obtain ⟨A5, c5, rfl, _⟩ := own_wr hb5; clear hb5; have o5 := hy5.cell; have f5 := hy5.frz; have l5 := hy5.lt; have t5 := (hy5.bl.cell (p := ⟨w.heap.size + 1, 0, none⟩) (by show w.heap.size + 1 < _; omega)).trans ct0; have a5 := (hy5.bl.cell (p := ⟨w.heap.size + 1 + 1, 0, none⟩) (by show w.heap.size + 1 + 1 < _; omega)).trans ca0; have t6 : (w5.setCell ⟨w.heap.size + 1 + 1 + 1 + 1 + 1, 0, none⟩ (.slice A5 (j + 1) c5)).cell? ⟨w.heap.size + 1, 0, none⟩ = some (.int .i64 T) := (World.cell?_setCell_far _ _ _ _ (by show w.heap.size + 1 + 1 + 1 + 1 + 1 ≠ w.heap.size + 1; omega)).trans t5; have a6 : (w5.setCell ⟨w.heap.size + 1 + 1 + 1 + 1 + 1, 0, none⟩ (.slice A5 (j + 1) c5)).cell? ⟨w.heap.size + 1 + 1, 0, none⟩ = some (.int .i64 S) := (World.cell?_setCell_far _ _ _ _ (by show w.heap.size + 1 + 1 + 1 + 1 + 1 ≠ w.heap.size + 1 + 1; omega)).trans a5; have HO5 := Lib.hid hy5; clear hown5 hg5 hat5 hy5)
                refine hK.out _ _ (by (try dsimp only); go_keep) (fun hHeld => ?_)
                clear hK K
                try simp only [Act.put, List.setIfInBounds_toArray, List.set_cons_zero, List.set_cons_succ]
                refine take_of (some 9) (i := 12) (v := ?vq10_12) rfl rfl (by kernel_rfl) (by kernel_rfl) (by kernel_rfl) (fun _ _ _ h => h) (Or.inl ⟨by rfl, ?hyq10_12⟩) (by assumption) ?restq10_12
                case hyq10_12 => (intro w hSw; (try dsimp only at hSw); go_simp; try with_reducible rfl)
                try simp only [Act.put, List.setIfInBounds_toArray, List.set_cons_zero, List.set_cons_succ]
                refine wpAnyH_ready (rs := [13]) (by kernel_rfl) (by simp) ?_
                refine AllReadyH.cons rfl (fun K hK => ?_) AllReadyH.nil
                go_simp
                (skip)
                go_wp2_with fail
                refine hK.out _ _ (by (try dsimp only); go_keep) (fun hHeld => ?_)
                clear hK K
                try simp only [Act.put, List.setIfInBounds_toArray, List.set_cons_zero, List.set_cons_succ]
                refine wpAnyH_done (by kernel_rfl) ?_ _
                refine NoPanic.normal ?_
                go_wp2
                go_roundw
                case rel => exact ⟨j + 1, _, by omega, by go_num, Lib.hid (by rw [HT.out, upto_succ]; exact HO5.out.store)⟩
                case measure => simp [intOf]; omega
              · go_simp
                (skip)
                go_wp2_with fail
                refine hK.out _ _ (by (try dsimp only); go_keep) (fun hHeld => ?_)
                clear hK K
                try simp only [Act.put, List.setIfInBounds_toArray, List.set_cons_zero, List.set_cons_succ]
                refine wpAnyH_ready (rs := [7]) (by kernel_rfl) (by simp) ?_
                refine AllReadyH.cons rfl (fun K hK => ?_) AllReadyH.nil
                rw [if_pos (by rfl)]
                (have hy0 := HO.out.below (bl_alloc (bl_alloc (bl_drew (Below.refl wr.heap.size wr)) (.cells #[.int .i64 (T * x / S)] 3)) (.cells #[.int .i64 (j : Int)] 3)); refine wp_append_own1 _ (.tmp 51) (.tmp 57) 22 (by rfl) (w.heap.size + 1 + 1 + 1) 3 i0 Try.underlying22 hi0 hi1' hi2' hi3 u9 XS.length (XS.map (Value.int .i64)) (by rfl) hy0.a ⟨wr.heap.size, 0, none⟩ (T * x / S) (by rfl) (by simp) (by omega) (by first | omega | (simp; omega)) ?_; intro u1 w3 hown3 hg3 hat3; have hy3 := hy0.left hown3 hg3 hat3; have o3 := hy3.cell; have f3 := hy3.frz; have l3 := hy3.lt; have t3 := (hy3.bl.cell (p := ⟨w.heap.size + 1, 0, none⟩) (by show w.heap.size + 1 < _; omega)).trans ct0; have a3 := (hy3.bl.cell (p := ⟨w.heap.size + 1 + 1, 0, none⟩) (by show w.heap.size + 1 + 1 < _; omega)).trans ca0; have hc3 : w3.cell? ⟨wr.heap.size + 1, 0, none⟩ = some (.int .i64 (j : Int)) := (World.cell?_of_block (hg3.block (wr.heap.size + 1) (by first | omega | (simp; done) | (simp; omega)) (fun e => by have := (HO.out.a.lt _ e.symm).2; omega))).trans (by simp); have HO3 := Lib.hid hy3; have s3 : wr.heap.size + 2 ≤ w3.heap.size := (by have := hg3.size; simpa using this); clear hown3 hg3 hat3 hy0 hy3)
                refine hK.out _ _ (by (try dsimp only); go_keep) (fun hHeld => ?_)
                clear hK K
                try simp only [Act.put, List.setIfInBounds_toArray, List.set_cons_zero, List.set_cons_succ]
                refine wpAnyH_ready (rs := [11]) (by kernel_rfl) (by simp) ?_
                refine AllReadyH.cons rfl (fun K hK => ?_) AllReadyH.nil
                rw [if_pos (by rfl)]
                (refine wp_append_own1 _ (.tmp 59) (.tmp 61) 22 (by rfl) (w.heap.size + 1 + 1 + 1) 3 i0 Try.underlying22 hi0 hi1' hi2' hi3 (.slice Av j cv) (upto j).length ((upto j).map (Value.int .i64)) (by rfl) HO3.out.b ⟨wr.heap.size + 1, 0, none⟩ (j : Int) (by rfl) (hc3) (by omega) (by first | omega | (simp; omega)) ?_; intro v1 w5 hown5 hg5 hat5; have hy5 := HO3.out.right hown5 hg5 hat5; have hb5 := hy5.b; rw [← upto_succ, upto_len] at hb5; obtain ⟨A5, c5, rfl, _⟩ := own_wr hb5; clear hb5; have o5 := hy5.cell; have f5 := hy5.frz; have l5 := hy5.lt; have t5 := (hy5.bl.cell (p := ⟨w.heap.size + 1, 0, none⟩) (by show w.heap.size + 1 < _; omega)).trans ct0; have a5 := (hy5.bl.cell (p := ⟨w.heap.size + 1 + 1, 0, none⟩) (by show w.heap.size + 1 + 1 < _; omega)).trans ca0; have t6 : (w5.setCell ⟨w.heap.size + 1 + 1 + 1 + 1 + 1, 0, none⟩ (.slice A5 (j + 1) c5)).cell? ⟨w.heap.size + 1, 0, none⟩ = some (.int .i64 T) := (World.cell?_setCell_far _ _ _ _ (by show w.heap.size + 1 + 1 + 1 + 1 + 1 ≠ w.heap.size + 1; omega)).trans t5; have a6 : (w5.setCell ⟨w.heap.size + 1 + 1 + 1 + 1 + 1, 0, none⟩ (.slice A5 (j + 1) c5)).cell? ⟨w.heap.size + 1 + 1, 0, none⟩ = some (.int .i64 S) := (World.cell?_setCell_far _ _ _ _ (by show w.heap.size + 1 + 1 + 1 + 1 + 1 ≠ w.heap.size + 1 + 1; omega)).trans a5; have HO5 := Lib.hid hy5; clear hown5 hg5 hat5 hy5)
                refine hK.out _ _ (by (try dsimp only); go_keep) (fun hHeld => ?_)
                clear hK K
                try simp only [Act.put, List.setIfInBounds_toArray, List.set_cons_zero, List.set_cons_succ]
                refine take_of (some 9) (i := 12) (v := ?vq11_12) rfl rfl (by kernel_rfl) (by kernel_rfl) (by kernel_rfl) (fun _ _ _ h => h) (Or.inl ⟨by rfl, ?hyq11_12⟩) (by assumption) ?restq11_12
                case hyq11_12 => (intro w hSw; (try dsimp only at hSw); go_simp; try with_reducible rfl)
                try simp only [Act.put, List.setIfInBounds_toArray, List.set_cons_zero, List.set_cons_succ]
                refine wpAnyH_ready (rs := [13]) (by kernel_rfl) (by simp) ?_
                refine AllReadyH.cons rfl (fun K hK => ?_) AllReadyH.nil
                go_simp
                (skip)
                go_wp2_with fail
                refine hK.out _ _ (by (try dsimp only); go_keep) (fun hHeld => ?_)
                clear hK K
                try simp only [Act.put, List.setIfInBounds_toArray, List.set_cons_zero, List.set_cons_succ]
                refine wpAnyH_done (by kernel_rfl) ?_ _
                refine NoPanic.normal ?_
                go_wp2
                go_roundw
                case rel => exact ⟨j + 1, _, by omega, by go_num, Lib.hid (by rw [HT.out, upto_succ]; exact HO5.out.store)⟩
                case measure => simp [intOf]; omega
          · go_simp
            (skip)
            go_wp2_with fail
            refine hK.out _ _ (by (try dsimp only); go_keep) (fun hHeld => ?_)
            clear hK K
            try simp only [Act.put, List.setIfInBounds_toArray, List.set_cons_zero, List.set_cons_succ]
            refine wpAnyH_ready (rs := [6,10]) (by kernel_rfl) (by simp) ?_
            refine AllReadyH.cons rfl (fun K hK => ?_) (AllReadyH.cons rfl (fun K hK => ?_) (AllReadyH.nil))
            · go_simp
              (skip)
              go_wp2_with fail
              refine hK.out _ _ (by (try dsimp only); go_keep) (fun hHeld => ?_)
              clear hK K
              try simp only [Act.put, List.setIfInBounds_toArray, List.set_cons_zero, List.set_cons_succ]
              refine wpAnyH_ready (rs := [7,10]) (by kernel_rfl) (by simp) ?_
              refine AllReadyH.cons rfl (fun K hK => ?_) (AllReadyH.cons rfl (fun K hK => ?_) (AllReadyH.nil))
              · rw [if_pos (by rfl)]
                (have hy0 := HO.out.below (bl_alloc (bl_drew (Below.refl wr.heap.size wr)) (.cells #[.int .i64 (T * x / S)] 3)); refine wp_append_own1 _ (.tmp 51) (.tmp 57) 22 (by rfl) (w.heap.size + 1 + 1 + 1) 3 i0 Try.underlying22 hi0 hi1' hi2' hi3 u9 XS.length (XS.map (Value.int .i64)) (by rfl) hy0.a ⟨wr.heap.size, 0, none⟩ (T * x / S) (by rfl) (by simp) (by omega) (by first | omega | (simp; omega)) ?_; intro u1 w3 hown3 hg3 hat3; have hy3 := hy0.left hown3 hg3 hat3; have o3 := hy3.cell; have f3 := hy3.frz; have l3 := hy3.lt; have t3 := (hy3.bl.cell (p := ⟨w.heap.size + 1, 0, none⟩) (by show w.heap.size + 1 < _; omega)).trans ct0; have a3 := (hy3.bl.cell (p := ⟨w.heap.size + 1 + 1, 0, none⟩) (by show w.heap.size + 1 + 1 < _; omega)).trans ca0; have HO3 := Lib.hid hy3; have s3 : wr.heap.size + 1 ≤ w3.heap.size := (by have := hg3.size; simpa using this); clear hown3 hg3 hat3 hy0 hy3)
                refine hK.out _ _ (by (try dsimp only); go_keep) (fun hHeld => ?_)
                clear hK K
                try simp only [Act.put, List.setIfInBounds_toArray, List.set_cons_zero, List.set_cons_succ]
                refine wpAnyH_ready (rs := [10]) (by kernel_rfl) (by simp) ?_
                refine AllReadyH.cons rfl (fun K hK => ?_) AllReadyH.nil
                go_simp
                (skip)
                go_wp2_with fail
                refine hK.out _ _ (by (try dsimp only); go_keep) (fun hHeld => ?_)
                clear hK K
                try simp only [Act.put, List.setIfInBounds_toArray, List.set_cons_zero, List.set_cons_succ]
                refine wpAnyH_ready (rs := [11]) (by kernel_rfl) (by simp) ?_
                refine AllReadyH.cons rfl (fun K hK => ?_) AllReadyH.nil
                rw [if_pos (by rfl)]
                (have hy1 := HO3.out.below (bl_alloc (Below.refl w3.heap.size w3) (.cells #[.int .i64 (j : Int)] 3)); refine wp_append_own1 _ (.tmp 59) (.tmp 61) 22 (by rfl) (w.heap.size + 1 + 1 + 1) 3 i0 Try.underlying22 hi0 hi1' hi2' hi3 (.slice Av j cv) (upto j).length ((upto j).map (Value.int .i64)) (by rfl) hy1.b ⟨w3.heap.size, 0, none⟩ (j : Int) (by rfl) (by simp) (by omega) (by first | omega | (simp; omega)) ?_; intro v1 w5 hown5 hg5 hat5; have hy5 := hy1.right hown5 hg5 hat5; have hb5 := hy5.b; rw [← upto_succ, upto_len] at hb5; obtain ⟨A5, c5, rfl, _⟩ := own_wr hb5; clear hb5; have o5 := hy5.cell; have f5 := hy5.frz; have l5 := hy5.lt; have t5 := (hy5.bl.cell (p := ⟨w.heap.size + 1, 0, none⟩) (by show w.heap.size + 1 < _; omega)).trans ct0; have a5 := (hy5.bl.cell (p := ⟨w.heap.size + 1 + 1, 0, none⟩) (by show w.heap.size + 1 + 1 < _; omega)).trans ca0; have t6 : (w5.setCell ⟨w.heap.size + 1 + 1 + 1 + 1 + 1, 0, none⟩ (.slice A5 (j + 1) c5)).cell? ⟨w.heap.size + 1, 0, none⟩ = some (.int .i64 T) := (World.cell?_setCell_far _ _ _ _ (by show w.heap.size + 1 + 1 + 1 + 1 + 1 ≠ w.heap.size + 1; omega)).trans t5; have a6 : (w5.setCell ⟨w.heap.size + 1 + 1 + 1 + 1 + 1, 0, none⟩ (.slice A5 (j + 1) c5)).cell? ⟨w.heap.size + 1 + 1, 0, none⟩ = some (.int .i64 S) := (World.cell?_setCell_far _ _ _ _ (by show w.heap.size + 1 + 1 + 1 + 1 + 1 ≠ w.heap.size + 1 + 1; omega)).trans a5; have HO5 := Lib.hid hy5; clear hown5 hg5 hat5 hy5)
                refine hK.out _ _ (by (try dsimp only); go_keep) (fun hHeld => ?_)
                clear hK K
                try simp only [Act.put, List.setIfInBounds_toArray, List.set_cons_zero, List.set_cons_succ]
                refine take_of (some 9) (i := 12) (v := ?vq14_12) rfl rfl (by kernel_rfl) (by kernel_rfl) (by kernel_rfl) (fun _ _ _ h => h) (Or.inl ⟨by rfl, ?hyq14_12⟩) (by assumption) ?restq14_12
                case hyq14_12 => (intro w hSw; (try dsimp only at hSw); go_simp; try with_reducible rfl)
                try simp only [Act.put, List.setIfInBounds_toArray, List.set_cons_zero, List.set_cons_succ]
                refine wpAnyH_ready (rs := [13]) (by kernel_rfl) (by simp) ?_
                refine AllReadyH.cons rfl (fun K hK => ?_) AllReadyH.nil
                go_simp
                (skip)
                go_wp2_with fail
                refine hK.out _ _ (by (try dsimp only); go_keep) (fun hHeld => ?_)
                clear hK K
                try simp only [Act.put, List.setIfInBounds_toArray, List.set_cons_zero, List.set_cons_succ]
                refine wpAnyH_done (by kernel_rfl) ?_ _
                refine NoPanic.normal ?_
                go_wp2
                go_roundw
                case rel => exact ⟨j + 1, _, by omega, by go_num, Lib.hid (by rw [HT.out, upto_succ]; exact HO5.out.store)⟩
                case measure => simp [intOf]; omega
              · go_simp
                (skip)
                go_wp2_with fail
                refine hK.out _ _ (by (try dsimp only); go_keep) (fun hHeld => ?_)
                clear hK K
                try simp only [Act.put, List.setIfInBounds_toArray, List.set_cons_zero, List.set_cons_succ]
                refine wpAnyH_ready (rs := [7]) (by kernel_rfl) (by simp) ?_
                refine AllReadyH.cons rfl (fun K hK => ?_) AllReadyH.nil
                rw [if_pos (by rfl)]
                (have hy0 := HO.out.below (bl_alloc (bl_alloc (bl_drew (Below.refl wr.heap.size wr)) (.cells #[.int .i64 (T * x / S)] 3)) (.cells #[.int .i64 (j : Int)] 3)); refine wp_append_own1 _ (.tmp 51) (.tmp 57) 22 (by rfl) (w.heap.size + 1 + 1 + 1) 3 i0 Try.underlying22 hi0 hi1' hi2' hi3 u9 XS.length (XS.map (Value.int .i64)) (by rfl) hy0.a ⟨wr.heap.size, 0, none⟩ (T * x / S) (by rfl) (by simp) (by omega) (by first | omega | (simp; omega)) ?_; intro u1 w3 hown3 hg3 hat3; have hy3 := hy0.left hown3 hg3 hat3; have o3 := hy3.cell; have f3 := hy3.frz; have l3 := hy3.lt; have t3 := (hy3.bl.cell (p := ⟨w.heap.size + 1, 0, none⟩) (by show w.heap.size + 1 < _; omega)).trans ct0; have a3 := (hy3.bl.cell (p := ⟨w.heap.size + 1 + 1, 0, none⟩) (by show w.heap.size + 1 + 1 < _; omega)).trans ca0; have hc3 : w3.cell? ⟨wr.heap.size + 1, 0, none⟩ = some (.int .i64 (j : Int)) := (World.cell?_of_block (hg3.block (wr.heap.size + 1) (by first | omega | (simp; done) | (simp; omega)) (fun e => by have := (HO.out.a.lt _ e.symm).2; omega))).trans (by simp); have HO3 := Lib.hid hy3; have s3 : wr.heap.size + 2 ≤ w3.heap.size := (by have := hg3.size; simpa using this); clear hown3 hg3 hat3 hy0 hy3)
                refine hK.out _ _ (by (try dsimp only); go_keep) (fun hHeld => ?_)
                clear hK K
                try simp only [Act.put, List.setIfInBounds_toArray, List.set_cons_zero, List.set_cons_succ]
                refine wpAnyH_ready (rs := [11]) (by kernel_rfl) (by simp) ?_
                refine AllReadyH.cons rfl (fun K hK => ?_) AllReadyH.nil
                rw [if_pos (by rfl)]
                (refine wp_append_own1 _ (.tmp 59) (.tmp 61) 22 (by rfl) (w.heap.size + 1 + 1 + 1) 3 i0 Try.underlying22 hi0 hi1' hi2' hi3 (.slice Av j cv) (upto j).length ((upto j).map (Value.int .i64)) (by rfl) HO3.out.b ⟨wr.heap.size + 1, 0, none⟩ (j : Int) (by rfl) (hc3) (by omega) (by first | omega | (simp; omega)) ?_; intro v1 w5 hown5 hg5 hat5; have hy5 := HO3.out.right hown5 hg5 hat5; have hb5 := hy5.b; rw [← upto_succ, upto_len] at hb5; obtain ⟨A5, c5, rfl, _⟩ := own_wr hb5; clear hb5; have o5 := hy5.cell; have f5 := hy5.frz; have l5 := hy5.lt; have t5 := (hy5.bl.cell (p := ⟨w.heap.size + 1, 0, none⟩) (by show w.heap.size + 1 < _; omega)).trans ct0; have a5 := (hy5.bl.cell (p := ⟨w.heap.size + 1 + 1, 0, none⟩) (by show w.heap.size + 1 + 1 < _; omega)).trans ca0; have t6 : (w5.setCell ⟨w.heap.size + 1 + 1 + 1 + 1 + 1, 0, none⟩ (.slice A5 (j + 1) c5)).cell? ⟨w.heap.size + 1, 0, none⟩ = some (.int .i64 T) := (World.cell?_setCell_far _ _ _ _ (by show w.heap.size + 1 + 1 + 1 + 1 + 1 ≠ w.heap.size + 1; omega)).trans t5; have a6 : (w5.setCell ⟨w.heap.size + 1 + 1 + 1 + 1 + 1, 0, none⟩ (.slice A5 (j + 1) c5)).cell? ⟨w.heap.size + 1 + 1, 0, none⟩ = some (.int .i64 S) := (World.cell?_setCell_far _ _ _ _ (by show w.heap.size + 1 + 1 + 1 + 1 + 1 ≠ w.heap.size + 1 + 1; omega)).trans a5; have HO5 := Lib.hid hy5; clear hown5 hg5 hat5 hy5)
                refine hK.out _ _ (by (try dsimp only); go_keep) (fun hHeld => ?_)
                clear hK K
                try simp only [Act.put, List.setIfInBounds_toArray, List.set_cons_zero, List.set_cons_succ]
                refine take_of (some 9) (i := 12) (v := ?vq15_12) rfl rfl (by kernel_rfl) (by kernel_rfl) (by kernel_rfl) (fun _ _ _ h => h) (Or.inl ⟨by rfl, ?hyq15_12⟩) (by assumption) ?restq15_12
                case hyq15_12 => (intro w hSw; (try dsimp only at hSw); go_simp; try with_reducible rfl)
                try simp only [Act.put, List.setIfInBounds_toArray, List.set_cons_zero, List.set_cons_succ]
                refine wpAnyH_ready (rs := [13]) (by kernel_rfl) (by simp) ?_
                refine AllReadyH.cons rfl (fun K hK => ?_) AllReadyH.nil
                go_simp
                (skip)
                go_wp2_with fail
                refine hK.out _ _ (by (try dsimp only); go_keep) (fun hHeld => ?_)
                clear hK K
                try simp only [Act.put, List.setIfInBounds_toArray, List.set_cons_zero, List.set_cons_succ]
                refine wpAnyH_done (by kernel_rfl) ?_ _
                refine NoPanic.normal ?_
                go_wp2
                go_roundw
                case rel => exact ⟨j + 1, _, by omega, by go_num, Lib.hid (by rw [HT.out, upto_succ]; exact HO5.out.store)⟩
                case measure => simp [intOf]; omega
            · go_simp
              (skip)
              go_wp2_with fail
              refine hK.out _ _ (by (try dsimp only); go_keep) (fun hHeld => ?_)
              clear hK K
              try simp only [Act.put, List.setIfInBounds_toArray, List.set_cons_zero, List.set_cons_succ]
              refine wpAnyH_ready (rs := [6]) (by kernel_rfl) (by simp) ?_
              refine AllReadyH.cons rfl (fun K hK => ?_) AllReadyH.nil
              go_simp
              (skip)
              go_wp2_with fail
              refine hK.out _ _ (by (try dsimp only); go_keep) (fun hHeld => ?_)
              clear hK K
              try simp only [Act.put, List.setIfInBounds_toArray, List.set_cons_zero, List.set_cons_succ]
              refine wpAnyH_ready (rs := [7]) (by kernel_rfl) (by simp) ?_
              refine AllReadyH.cons rfl (fun K hK => ?_) AllReadyH.nil
              rw [if_pos (by rfl)]
              (have hy0 := HO.out.below (bl_alloc (bl_alloc (bl_drew (Below.refl wr.heap.size wr)) (.cells #[.int .i64 (j : Int)] 3)) (.cells #[.int .i64 (T * x / S)] 3)); refine wp_append_own1 _ (.tmp 51) (.tmp 57) 22 (by rfl) (w.heap.size + 1 + 1 + 1) 3 i0 Try.underlying22 hi0 hi1' hi2' hi3 u9 XS.length (XS.map (Value.int .i64)) (by rfl) hy0.a ⟨wr.heap.size + 1, 0, none⟩ (T * x / S) (by rfl) (by simp) (by omega) (by first | omega | (simp; omega)) ?_; intro u1 w3 hown3 hg3 hat3; have hy3 := hy0.left hown3 hg3 hat3; have o3 := hy3.cell; have f3 := hy3.frz; have l3 := hy3.lt; have t3 := (hy3.bl.cell (p := ⟨w.heap.size + 1, 0, none⟩) (by show w.heap.size + 1 < _; omega)).trans ct0; have a3 := (hy3.bl.cell (p := ⟨w.heap.size + 1 + 1, 0, none⟩) (by show w.heap.size + 1 + 1 < _; omega)).trans ca0; have hc3 : w3.cell? ⟨wr.heap.size, 0, none⟩ = some (.int .i64 (j : Int)) := (World.cell?_of_block (hg3.block (wr.heap.size) (by first | omega | (simp; done) | (simp; omega)) (fun e => by have := (HO.out.a.lt _ e.symm).2; omega))).trans (by simp); have HO3 := Lib.hid hy3; have s3 : wr.heap.size + 2 ≤ w3.heap.size := (by have := hg3.size; simpa using this); clear hown3 hg3 hat3 hy0 hy3)
              refine hK.out _ _ (by (try dsimp only); go_keep) (fun hHeld => ?_)
              clear hK K
              try simp only [Act.put, List.setIfInBounds_toArray, List.set_cons_zero, List.set_cons_succ]
              refine wpAnyH_ready (rs := [11]) (by kernel_rfl) (by simp) ?_
              refine AllReadyH.cons rfl (fun K hK => ?_) AllReadyH.nil
              rw [if_pos (by rfl)]
              (refine wp_append_own1 _ (.tmp 59) (.tmp 61) 22 (by rfl) (w.heap.size + 1 + 1 + 1) 3 i0 Try.underlying22 hi0 hi1' hi2' hi3 (.slice Av j cv) (upto j).length ((upto j).map (Value.int .i64)) (by rfl) HO3.out.b ⟨wr.heap.size, 0, none⟩ (j : Int) (by rfl) (hc3) (by omega) (by first | omega | (simp; omega)) ?_; intro v1 w5 hown5 hg5 hat5; have hy5 := HO3.out.right hown5 hg5 hat5; have hb5 := hy5.b; rw [← upto_succ, upto_len] at hb5; obtain ⟨A5, c5, rfl, _⟩ := own_wr hb5; clear hb5; have o5 := hy5.cell; have f5 := hy5.frz; have l5 := hy5.lt; have t5 := (hy5.bl.cell (p := ⟨w.heap.size + 1, 0, none⟩) (by show w.heap.size + 1 < _; omega)).trans ct0; have a5 := (hy5.bl.cell (p := ⟨w.heap.size + 1 + 1, 0, none⟩) (by show w.heap.size + 1 + 1 < _; omega)).trans ca0; have t6 : (w5.setCell ⟨w.heap.size + 1 + 1 + 1 + 1 + 1, 0, none⟩ (.slice A5 (j + 1) c5)).cell? ⟨w.heap.size + 1, 0, none⟩ = some (.int .i64 T) := (World.cell?_setCell_far _ _ _ _ (by show w.heap.size + 1 + 1 + 1 + 1 + 1 ≠ w.heap.size + 1; omega)).trans t5; have a6 : (w5.setCell ⟨w.heap.size + 1 + 1 + 1 + 1 + 1, 0, none⟩ (.slice A5 (j + 1) c5)).cell? ⟨w.heap.size + 1 + 1, 0, none⟩ = some (.int .i64 S) := (World.cell?_setCell_far _ _ _ _ (by show w.heap.size + 1 + 1 + 1 + 1 + 1 ≠ w.heap.size + 1 + 1; omega)).trans a5; have HO5 := Lib.hid hy5; clear hown5 hg5 hat5 hy5)
              refine hK.out _ _ (by (try dsimp only); go_keep) (fun hHeld => ?_)
              clear hK K
              try simp only [Act.put, List.setIfInBounds_toArray, List.set_cons_zero, List.set_cons_succ]
              refine take_of (some 9) (i := 12) (v := ?vq16_12) rfl rfl (by kernel_rfl) (by kernel_rfl) (by kernel_rfl) (fun _ _ _ h => h) (Or.inl ⟨by rfl, ?hyq16_12⟩) (by assumption) ?restq16_12
              case hyq16_12 => (intro w hSw; (try dsimp only at hSw); go_simp; try with_reducible rfl)
              try simp only [Act.put, List.setIfInBounds_toArray, List.set_cons_zero, List.set_cons_succ]
              refine wpAnyH_ready (rs := [13]) (by kernel_rfl) (by simp) ?_
              refine AllReadyH.cons rfl (fun K hK => ?_) AllReadyH.nil
              go_simp
              (skip)
              go_wp2_with fail
              refine hK.out _ _ (by (try dsimp only); go_keep) (fun hHeld => ?_)
              clear hK K
              try simp only [Act.put, List.setIfInBounds_toArray, List.set_cons_zero, List.set_cons_succ]
              refine wpAnyH_done (by kernel_rfl) ?_ _
              refine NoPanic.normal ?_
              go_wp2
              go_roundw
              case rel => exact ⟨j + 1, _, by omega, by go_num, Lib.hid (by rw [HT.out, upto_succ]; exact HO5.out.store)⟩
              case measure => simp [intOf]; omega
          · go_simp
            (skip)
            go_wp2_with fail
            refine hK.out _ _ (by (try dsimp only); go_keep) (fun hHeld => ?_)
            clear hK K
            try simp only [Act.put, List.setIfInBounds_toArray, List.set_cons_zero, List.set_cons_succ]
            refine wpAnyH_ready (rs := [6,8]) (by kernel_rfl) (by simp) ?_
            refine AllReadyH.cons rfl (fun K hK => ?_) (AllReadyH.cons rfl (fun K hK => ?_) (AllReadyH.nil))
            · go_simp
              (skip)
              go_wp2_with fail
              refine hK.out _ _ (by (try dsimp only); go_keep) (fun hHeld => ?_)
              clear hK K
              try simp only [Act.put, List.setIfInBounds_toArray, List.set_cons_zero, List.set_cons_succ]
              refine wpAnyH_ready (rs := [7,8]) (by kernel_rfl) (by simp) ?_
              refine AllReadyH.cons rfl (fun K hK => ?_) (AllReadyH.cons rfl (fun K hK => ?_) (AllReadyH.nil))
              · rw [if_pos (by rfl)]
                (have hy0 := HO.out.below (bl_alloc (bl_alloc (bl_drew (Below.refl wr.heap.size wr)) (.cells #[.int .i64 (j : Int)] 3)) (.cells #[.int .i64 (T * x / S)] 3)); refine wp_append_own1 _ (.tmp 51) (.tmp 57) 22 (by rfl) (w.heap.size + 1 + 1 + 1) 3 i0 Try.underlying22 hi0 hi1' hi2' hi3 u9 XS.length (XS.map (Value.int .i64)) (by rfl) hy0.a ⟨wr.heap.size + 1, 0, none⟩ (T * x / S) (by rfl) (by simp) (by omega) (by first | omega | (simp; omega)) ?_; intro u1 w3 hown3 hg3 hat3; have hy3 := hy0.left hown3 hg3 hat3; have o3 := hy3.cell; have f3 := hy3.frz; have l3 := hy3.lt; have t3 := (hy3.bl.cell (p := ⟨w.heap.size + 1, 0, none⟩) (by show w.heap.size + 1 < _; omega)).trans ct0; have a3 := (hy3.bl.cell (p := ⟨w.heap.size + 1 + 1, 0, none⟩) (by show w.heap.size + 1 + 1 < _; omega)).trans ca0; have hc3 : w3.cell? ⟨wr.heap.size, 0, none⟩ = some (.int .i64 (j : Int)) := (World.cell?_of_block (hg3.block (wr.heap.size) (by first | omega | (simp; done) | (simp; omega)) (fun e => by have := (HO.out.a.lt _ e.symm).2; omega))).trans (by simp); have HO3 := Lib.hid hy3; have s3 : wr.heap.size + 2 ≤ w3.heap.size := (by have := hg3.size; simpa using this); clear hown3 hg3 hat3 hy0 hy3)
                refine hK.out _ _ (by (try dsimp only); go_keep) (fun hHeld => ?_)
                clear hK K
                try simp only [Act.put, List.setIfInBounds_toArray, List.set_cons_zero, List.set_cons_succ]
                refine wpAnyH_ready (rs := [8]) (by kernel_rfl) (by simp) ?_
                refine AllReadyH.cons rfl (fun K hK => ?_) AllReadyH.nil
                go_simp
                (skip)
                go_wp2_with fail
                refine hK.out _ _ (by (try dsimp only); go_keep) (fun hHeld => ?_)
                clear hK K
                try simp only [Act.put, List.setIfInBounds_toArray, List.set_cons_zero, List.set_cons_succ]
                refine wpAnyH_ready (rs := [11]) (by kernel_rfl) (by simp) ?_
                refine AllReadyH.cons rfl (fun K hK => ?_) AllReadyH.nil
                rw [if_pos (by rfl)]
                (refine wp_append_own1 _ (.tmp 59) (.tmp 61) 22 (by rfl) (w.heap.size + 1 + 1 + 1) 3 i0 Try.underlying22 hi0 hi1' hi2' hi3 (.slice Av j cv) (upto j).length ((upto j).map (Value.int .i64)) (by rfl) HO3.out.b ⟨wr.heap.size, 0, none⟩ (j : Int) (by rfl) (hc3) (by omega) (by first | omega | (simp; omega)) ?_; intro v1 w5 hown5 hg5 hat5; have hy5 := HO3.out.right hown5 hg5 hat5; have hb5 := hy5.b; rw [← upto_succ, upto_len] at hb5; obtain ⟨A5, c5, rfl, _⟩ := own_wr hb5; clear hb5; have o5 := hy5.cell; have f5 := hy5.frz; have l5 := hy5.lt; have t5 := (hy5.bl.cell (p := ⟨w.heap.size + 1, 0, none⟩) (by show w.heap.size + 1 < _; omega)).trans ct0; have a5 := (hy5.bl.cell (p := ⟨w.heap.size + 1 + 1, 0, none⟩) (by show w.heap.size + 1 + 1 < _; omega)).trans ca0; have t6 : (w5.setCell ⟨w.heap.size + 1 + 1 + 1 + 1 + 1, 0, none⟩ (.slice A5 (j + 1) c5)).cell? ⟨w.heap.size + 1, 0, none⟩ = some (.int .i64 T) := (World.cell?_setCell_far _ _ _ _ (by show w.heap.size + 1 + 1 + 1 + 1 + 1 ≠ w.heap.size + 1; omega)).trans t5; have a6 : (w5.setCell ⟨w.heap.size + 1 + 1 + 1 + 1 + 1, 0, none⟩ (.slice A5 (j + 1) c5)).cell? ⟨w.heap.size + 1 + 1, 0, none⟩ = some (.int .i64 S) := (World.cell?_setCell_far _ _ _ _ (by show w.heap.size + 1 + 1 + 1 + 1 + 1 ≠ w.heap.size + 1 + 1; omega)).trans a5; have HO5 := Lib.hid hy5; clear hown5 hg5 hat5 hy5)
                refine hK.out _ _ (by (try dsimp only); go_keep) (fun hHeld => ?_)
                clear hK K
                try simp only [Act.put, List.setIfInBounds_toArray, List.set_cons_zero, List.set_cons_succ]
                refine take_of (some 9) (i := 12) (v := ?vq19_12) rfl rfl (by kernel_rfl) (by kernel_rfl) (by kernel_rfl) (fun _ _ _ h => h) (Or.inl ⟨by rfl, ?hyq19_12⟩) (by assumption) ?restq19_12
                case hyq19_12 => (intro w hSw; (try dsimp only at hSw); go_simp; try with_reducible rfl)
                try simp only [Act.put, List.setIfInBounds_toArray, List.set_cons_zero, List.set_cons_succ]
                refine wpAnyH_ready (rs := [13]) (by kernel_rfl) (by simp) ?_
                refine AllReadyH.cons rfl (fun K hK => ?_) AllReadyH.nil
                go_simp
                (skip)
                go_wp2_with fail
                refine hK.out _ _ (by (try dsimp only); go_keep) (fun hHeld => ?_)
                clear hK K
                try simp only [Act.put, List.setIfInBounds_toArray, List.set_cons_zero, List.set_cons_succ]
                refine wpAnyH_done (by kernel_rfl) ?_ _
                refine NoPanic.normal ?_
                go_wp2
                go_roundw
                case rel => exact ⟨j + 1, _, by omega, by go_num, Lib.hid (by rw [HT.out, upto_succ]; exact HO5.out.store)⟩
                case measure => simp [intOf]; omega
              · go_simp
                (skip)
                go_wp2_with fail
                refine hK.out _ _ (by (try dsimp only); go_keep) (fun hHeld => ?_)
                clear hK K
                try simp only [Act.put, List.setIfInBounds_toArray, List.set_cons_zero, List.set_cons_succ]
                refine wpAnyH_ready (rs := [7]) (by kernel_rfl) (by simp) ?_
                refine AllReadyH.cons rfl (fun K hK => ?_) AllReadyH.nil
                rw [if_pos (by rfl)]
                (have hy0 := HO.out.below (bl_alloc (bl_alloc (bl_drew (Below.refl wr.heap.size wr)) (.cells #[.int .i64 (j : Int)] 3)) (.cells #[.int .i64 (T * x / S)] 3)); refine wp_append_own1 _ (.tmp 51) (.tmp 57) 22 (by rfl) (w.heap.size + 1 + 1 + 1) 3 i0 Try.underlying22 hi0 hi1' hi2' hi3 u9 XS.length (XS.map (Value.int .i64)) (by rfl) hy0.a ⟨wr.heap.size + 1, 0, none⟩ (T * x / S) (by rfl) (by simp) (by omega) (by first | omega | (simp; omega)) ?_; intro u1 w3 hown3 hg3 hat3; have hy3 := hy0.left hown3 hg3 hat3; have o3 := hy3.cell; have f3 := hy3.frz; have l3 := hy3.lt; have t3 := (hy3.bl.cell (p := ⟨w.heap.size + 1, 0, none⟩) (by show w.heap.size + 1 < _; omega)).trans ct0; have a3 := (hy3.bl.cell (p := ⟨w.heap.size + 1 + 1, 0, none⟩) (by show w.heap.size + 1 + 1 < _; omega)).trans ca0; have hc3 : w3.cell? ⟨wr.heap.size, 0, none⟩ = some (.int .i64 (j : Int)) := (World.cell?_of_block (hg3.block (wr.heap.size) (by first | omega | (simp; done) | (simp; omega)) (fun e => by have := (HO.out.a.lt _ e.symm).2; omega))).trans (by simp); have HO3 := Lib.hid hy3; have s3 : wr.heap.size + 2 ≤ w3.heap.size := (by have := hg3.size; simpa using this); clear hown3 hg3 hat3 hy0 hy3)
                refine hK.out _ _ (by (try dsimp only); go_keep) (fun hHeld => ?_)
                clear hK K
                try simp only [Act.put, List.setIfInBounds_toArray, List.set_cons_zero, List.set_cons_succ]
                refine wpAnyH_ready (rs := [11]) (by kernel_rfl) (by simp) ?_
                refine AllReadyH.cons rfl (fun K hK => ?_) AllReadyH.nil
                rw [if_pos (by rfl)]
                (refine wp_append_own1 _ (.tmp 59) (.tmp 61) 22 (by rfl) (w.heap.size + 1 + 1 + 1) 3 i0 Try.underlying22 hi0 hi1' hi2' hi3 (.slice Av j cv) (upto j).length ((upto j).map (Value.int .i64)) (by rfl) HO3.out.b ⟨wr.heap.size, 0, none⟩ (j : Int) (by rfl) (hc3) (by omega) (by first | omega | (simp; omega)) ?_; intro v1 w5 hown5 hg5 hat5; have hy5 := HO3.out.right hown5 hg5 hat5; have hb5 := hy5.b; rw [← upto_succ, upto_len] at hb5; obtain ⟨A5, c5, rfl, _⟩ := own_wr hb5; clear hb5; have o5 := hy5.cell; have f5 := hy5.frz; have l5 := hy5.lt; have t5 := (hy5.bl.cell (p := ⟨w.heap.size + 1, 0, none⟩) (by show w.heap.size + 1 < _; omega)).trans ct0; have a5 := (hy5.bl.cell (p := ⟨w.heap.size + 1 + 1, 0, none⟩) (by show w.heap.size + 1 + 1 < _; omega)).trans ca0; have t6 : (w5.setCell ⟨w.heap.size + 1 + 1 + 1 + 1 + 1, 0, none⟩ (.slice A5 (j + 1) c5)).cell? ⟨w.heap.size + 1, 0, none⟩ = some (.int .i64 T) := (World.cell?_setCell_far _ _ _ _ (by show w.heap.size + 1 + 1 + 1 + 1 + 1 ≠ w.heap.size + 1; omega)).trans t5; have a6 : (w5.setCell ⟨w.heap.size + 1 + 1 + 1 + 1 + 1, 0, none⟩ (.slice A5 (j + 1) c5)).cell? ⟨w.heap.size + 1 + 1, 0, none⟩ = some (.int .i64 S) := (World.cell?_setCell_far _ _ _ _ (by show w.heap.size + 1 + 1 + 1 + 1 + 1 ≠ w.heap.size + 1 + 1; omega)).trans a5; have HO5 := Lib.hid hy5; clear hown5 hg5 hat5 hy5)
                refine hK.out _ _ (by (try dsimp only); go_keep) (fun hHeld => ?_)
                clear hK K
                try simp only [Act.put, List.setIfInBounds_toArray, List.set_cons_zero, List.set_cons_succ]
                refine take_of (some 9) (i := 12) (v := ?vq20_12) rfl rfl (by kernel_rfl) (by kernel_rfl) (by kernel_rfl) (fun _ _ _ h => h) (Or.inl ⟨by rfl, ?hyq20_12⟩) (by assumption) ?restq20_12
                case hyq20_12 => (intro w hSw; (try dsimp only at hSw); go_simp; try with_reducible rfl)
                try simp only [Act.put, List.setIfInBounds_toArray, List.set_cons_zero, List.set_cons_succ]
                refine wpAnyH_ready (rs := [13]) (by kernel_rfl) (by simp) ?_
                refine AllReadyH.cons rfl (fun K hK => ?_) AllReadyH.nil
                go_simp
                (skip)
                go_wp2_with fail
                refine hK.out _ _ (by (try dsimp only); go_keep) (fun hHeld => ?_)
                clear hK K
                try simp only [Act.put, List.setIfInBounds_toArray, List.set_cons_zero, List.set_cons_succ]
                refine wpAnyH_done (by kernel_rfl) ?_ _
                refine NoPanic.normal ?_
                go_wp2
                go_roundw
                case rel => exact ⟨j + 1, _, by omega, by go_num, Lib.hid (by rw [HT.out, upto_succ]; exact HO5.out.store)⟩
                case measure => simp [intOf]; omega
            · go_simp
              (skip)
              go_wp2_with fail
              refine hK.out _ _ (by (try dsimp only); go_keep) (fun hHeld => ?_)
              clear hK K
              try simp only [Act.put, List.setIfInBounds_toArray, List.set_cons_zero, List.set_cons_succ]
              refine wpAnyH_ready (rs := [6]) (by kernel_rfl) (by simp) ?_
              refine AllReadyH.cons rfl (fun K hK => ?_) AllReadyH.nil
              go_simp
              (skip)
              go_wp2_with fail
              refine hK.out _ _ (by (try dsimp only); go_keep) (fun hHeld => ?_)
              clear hK K
              try simp only [Act.put, List.setIfInBounds_toArray, List.set_cons_zero, List.set_cons_succ]
              refine wpAnyH_ready (rs := [7]) (by kernel_rfl) (by simp) ?_
              refine AllReadyH.cons rfl (fun K hK => ?_) AllReadyH.nil
              rw [if_pos (by rfl)]
              (have hy0 := HO.out.below (bl_alloc (bl_alloc (bl_drew (Below.refl wr.heap.size wr)) (.cells #[.int .i64 (j : Int)] 3)) (.cells #[.int .i64 (T * x / S)] 3)); refine wp_append_own1 _ (.tmp 51) (.tmp 57) 22 (by rfl) (w.heap.size + 1 + 1 + 1) 3 i0 Try.underlying22 hi0 hi1' hi2' hi3 u9 XS.length (XS.map (Value.int .i64)) (by rfl) hy0.a ⟨wr.heap.size + 1, 0, none⟩ (T * x / S) (by rfl) (by simp) (by omega) (by first | omega | (simp; omega)) ?_; intro u1 w3 hown3 hg3 hat3; have hy3 := hy0.left hown3 hg3 hat3; have o3 := hy3.cell; have f3 := hy3.frz; have l3 := hy3.lt; have t3 := (hy3.bl.cell (p := ⟨w.heap.size + 1, 0, none⟩) (by show w.heap.size + 1 < _; omega)).trans ct0; have a3 := (hy3.bl.cell (p := ⟨w.heap.size + 1 + 1, 0, none⟩) (by show w.heap.size + 1 + 1 < _; omega)).trans ca0; have hc3 : w3.cell? ⟨wr.heap.size, 0, none⟩ = some (.int .i64 (j : Int)) := (World.cell?_of_block (hg3.block (wr.heap.size) (by first | omega | (simp; done) | (simp; omega)) (fun e => by have := (HO.out.a.lt _ e.symm).2; omega))).trans (by simp); have HO3 := Lib.hid hy3; have s3 : wr.heap.size + 2 ≤ w3.heap.size := (by have := hg3.size; simpa using this); clear hown3 hg3 hat3 hy0 hy3)
              refine hK.out _ _ (by (try dsimp only); go_keep) (fun hHeld => ?_)
              clear hK K
              try simp only [Act.put, List.setIfInBounds_toArray, List.set_cons_zero, List.set_cons_succ]
              refine wpAnyH_ready (rs := [11]) (by kernel_rfl) (by simp) ?_
              refine AllReadyH.cons rfl (fun K hK => ?_) AllReadyH.nil
              rw [if_pos (by rfl)]
              (refine wp_append_own1 _ (.tmp 59) (.tmp 61) 22 (by rfl) (w.heap.size + 1 + 1 + 1) 3 i0 Try.underlying22 hi0 hi1' hi2' hi3 (.slice Av j cv) (upto j).length ((upto j).map (Value.int .i64)) (by rfl) HO3.out.b ⟨wr.heap.size, 0, none⟩ (j : Int) (by rfl) (hc3) (by omega) (by first | omega | (simp; omega)) ?_; intro v1 w5 hown5 hg5 hat5; have hy5 := HO3.out.right hown5 hg5 hat5; have hb5 := hy5.b; rw [← upto_succ, upto_len] at hb5; obtain ⟨A5, c5, rfl, _⟩ := own_wr hb5; clear hb5; have o5 := hy5.cell; have f5 := hy5.frz; have l5 := hy5.lt; have t5 := (hy5.bl.cell (p := ⟨w.heap.size + 1, 0, none⟩) (by show w.heap.size + 1 < _; omega)).trans ct0; have a5 := (hy5.bl.cell (p := ⟨w.heap.size + 1 + 1, 0, none⟩) (by show w.heap.size + 1 + 1 < _; omega)).trans ca0; have t6 : (w5.setCell ⟨w.heap.size + 1 + 1 + 1 + 1 + 1, 0, none⟩ (.slice A5 (j + 1) c5)).cell? ⟨w.heap.size + 1, 0, none⟩ = some (.int .i64 T) := (World.cell?_setCell_far _ _ _ _ (by show w.heap.size + 1 + 1 + 1 + 1 + 1 ≠ w.heap.size + 1; omega)).trans t5; have a6 : (w5.setCell ⟨w.heap.size + 1 + 1 + 1 + 1 + 1, 0, none⟩ (.slice A5 (j + 1) c5)).cell? ⟨w.heap.size + 1 + 1, 0, none⟩ = some (.int .i64 S) := (World.cell?_setCell_far _ _ _ _ (by show w.heap.size + 1 + 1 + 1 + 1 + 1 ≠ w.heap.size + 1 + 1; omega)).trans a5; have HO5 := Lib.hid hy5; clear hown5 hg5 hat5 hy5)
              refine hK.out _ _ (by (try dsimp only); go_keep) (fun hHeld => ?_)
              clear hK K
              try simp only [Act.put, List.setIfInBounds_toArray, List.set_cons_zero, List.set_cons_succ]
              refine take_of (some 9) (i := 12) (v := ?vq21_12) rfl rfl (by kernel_rfl) (by kernel_rfl) (by kernel_rfl) (fun _ _ _ h => h) (Or.inl ⟨by rfl, ?hyq21_12⟩) (by assumption) ?restq21_12
              case hyq21_12 => (intro w hSw; (try dsimp only at hSw); go_simp; try with_reducible rfl)
              try simp only [Act.put, List.setIfInBounds_toArray, List.set_cons_zero, List.set_cons_succ]
              refine wpAnyH_ready (rs := [13]) (by kernel_rfl) (by simp) ?_
              refine AllReadyH.cons rfl (fun K hK => ?_) AllReadyH.nil
              go_simp
              (skip)
              go_wp2_with fail
              refine hK.out _ _ (by (try dsimp only); go_keep) (fun hHeld => ?_)
              clear hK K
              try simp only [Act.put, List.setIfInBounds_toArray, List.set_cons_zero, List.set_cons_succ]
              refine wpAnyH_done (by kernel_rfl) ?_ _
              refine NoPanic.normal ?_
              go_wp2
              go_roundw
              case rel => exact ⟨j + 1, _, by omega, by go_num, Lib.hid (by rw [HT.out, upto_succ]; exact HO5.out.store)⟩
              case measure => simp [intOf]; omega
        · obtain rfl : n = j := by omega
          have htk : (bsW xs T S).take n = bsW xs T S := List.take_of_length_le (by rw [bsW_len]; omega)
          rw [htk] at HO
          have ha := HO.out.a
          rw [bsW_len, hl] at ha
          have hbo := HO.out.b
          rw [upto_len] at hbo
          have hne := HO.out.ne
          have oc := HO.out.cell
          obtain ⟨A2, c2, rfl, hw2⟩ := own_wr ha
          obtain ⟨A3, c3, rfl, hw3⟩ := own_wr hbo
          have hc3 := own_cap hbo
          obtain ⟨h, rfl, hhb, hhl, _, _⟩ := hw2.2 (by omega)
          obtain ⟨g, rfl, hgb, hgl, hgc, hgf⟩ := hw3.2 (by omega)
          have hgh : g ≠ h := fun e => hne h (by simp [Value.ownBlock]) (by simp [Value.ownBlock, e])
          have bl := HO.out.bl
          have olt := HO.out.lt
          have cw := (bl.cell (p := ⟨w.heap.size, 0, none⟩) (by show w.heap.size < _; omega)).trans cw0
          have ct := (bl.cell (p := ⟨w.heap.size + 1, 0, none⟩) (by show w.heap.size + 1 < _; omega)).trans ct0
          have ca := (bl.cell (p := ⟨w.heap.size + 1 + 1, 0, none⟩) (by show w.heap.size + 1 + 1 < _; omega)).trans ca0
          have hog : w.heap.size + 1 + 1 + 1 + 1 + 1 ≠ g := fun e => HO.out.hv (by simp [Value.ownBlock, e])
          have hoh : w.heap.size + 1 + 1 + 1 + 1 + 1 ≠ h := fun e => HO.out.hu (by simp [Value.ownBlock, e])
          have HSRT := Lib.hid (order_sorted (w.heap.size + 1) w.heap.size (w.heap.size + 1 + 1 + 1 + 1 + 1) (w.heap.size + 1 + 1) T S xs A n cp g 0 c3 w.heap.size wr hl h1 h32 hS hT HM.out ct cw oc ca (by omega) (by omega) ⟨olt, hog⟩ (by omega) (by omega) hgl (HR0.out.below (bl.mono (by omega))) (fun t ht => by rw [Nat.zero_add]; exact hgc t t (upto_at ht)) (fun t ht => hgf _))
          have HW2 := Lib.hid hw2
          have HBL := Lib.hid bl
          clear ha hbo hne hw2 hw3 hgc hgf bl HO
          go_wp2_with fail
          refine HSRT.out.mono ?_
          rintro e w6 ⟨rfl, hg6, hc6⟩
          have gat := gr_at hg6 olt hog
          have oc6 := (gat.1 0).trans oc
          have tc6 := ((gr_at hg6 (show w.heap.size + 1 < wr.heap.size by omega) (by omega)).1 0).trans ct
          have hw6 : Wr w6 (w.heap.size + 1 + 1 + 1) (some ⟨h, 0, none⟩) n (bsW xs T S) := by
            refine ⟨HW2.out.1, fun hn => ?_⟩
            obtain ⟨h', e, q1, q2, q3, q4⟩ := HW2.out.2 hn
            obtain rfl : h = h' := by simpa using e
            have gh := gr_at hg6 q2 (fun e => hgh e.symm)
            exact ⟨h, rfl, q1, Nat.lt_of_lt_of_le q2 hg6.size, fun i x hx => (gh.1 i).trans (q3 i x hx), fun i => (gh.2 i).trans (q4 i)⟩
          have HW6 := Lib.hid hw6
          have B6 := Lib.hid (show Below w.heap.size w w6 from BW.out.trans ((HBL.out.mono (by omega)).trans (gr_below hg6 (by omega) (by omega))))
          have HC6 := Lib.hid (show ∀ r, r < n → w6.cell? ⟨g, r, none⟩ = some (.int .i64 (oW xs T S n r : Int)) from fun r hr => by have := hc6 r hr; rwa [Nat.zero_add] at this)
          obtain ⟨o, ho⟩ : ∃ o, oW xs T S n = o := ⟨_, rfl⟩
          have HOK := Lib.hid (oW_ok xs T S n)
          obtain ⟨L, hL⟩ : ∃ L, bsW xs T S = L := ⟨_, rfl⟩
          have HLbd := Lib.hid (bsW_bd hT hS HM.out)
          obtain ⟨SB, hSB⟩ : ∃ SB, sumL (bsW xs T S) = SB := ⟨_, rfl⟩
          obtain ⟨m, hm⟩ := Int.eq_ofNat_of_zero_le HLB.1
          have hm2 : T - SB = (m : Int) := by rw [← hSB]; exact hm
          have hmn : m < n := by have := HLB.2; omega
          have HSB := Lib.hid hSB
          rw [hL] at HSB HLbd HW6
          rw [ho] at HC6 HOK
          have HE := Lib.hid (show addO (oW xs T S n) (bsW xs T S) (leftW xs T S).toNat = addO o L m by rw [ho, hL, show leftW xs T S = (m : Int) from hm, Int.toNat_natCast])
          clear hg6 hc6 gat hw6 hSB hL ho hm HLB oc ct cw ca HSRT HW2 HBL
          have em : IntKind.i64.wrap (m : Int) = (m : Int) := IntWalk.i64_in _ (by omega)
          have HSM := Lib.hid (sum_any (some ⟨h, 0, none⟩) n c2 w6.heap.size L 100000000000 w6.drew HW6.out.rd (by omega) (by omega) HLbd.out)
          rw [HSB.out] at HSM
          have m0 : (0 : Int) ≤ (m : Int) := by omega
          have m1 : (m : Int) ≤ (c3 : Int) := by omega
          go_wp2_with fail
          refine wp_region_noPanic ?_
          refine wp_region_held_drew (S := (fun w' => w'.cell? ⟨w.heap.size + 1 + 1 + 1 + 1 + 1, 0, none⟩ = some (.slice (some ⟨g, 0, none⟩) n c3) ∧ w'.cell? ⟨w.heap.size + 1, 0, none⟩ = some (.int .i64 T))) (by kernel_rfl) (by (try dsimp only); go_keep) (fun hHeld => ?_)
          refine take_of (some 68) (i := 0) (v := ?vq22_0) rfl rfl (by kernel_rfl) (by kernel_rfl) (by kernel_rfl) (fun _ _ _ h => h) (Or.inl ⟨by rfl, ?hyq22_0⟩) (by assumption) ?restq22_0
          case hyq22_0 => (intro w hSw; (try dsimp only at hSw); go_simp; try with_reducible rfl)
          try simp only [Act.put, List.setIfInBounds_toArray, List.set_cons_zero, List.set_cons_succ]
          refine take_of (some 69) (i := 1) (v := ?vq22_1) rfl rfl (by kernel_rfl) (by kernel_rfl) (by kernel_rfl) (fun _ _ _ h => h) (Or.inl ⟨by rfl, ?hyq22_1⟩) (by assumption) ?restq22_1
          case hyq22_1 => (intro w hSw; (try dsimp only at hSw); go_simp; try with_reducible rfl)
          try simp only [Act.put, List.setIfInBounds_toArray, List.set_cons_zero, List.set_cons_succ]
          refine take_of (some 70) (i := 2) (v := ?vq22_2) rfl rfl (by kernel_rfl) (by kernel_rfl) (by kernel_rfl) (fun _ _ _ h => h) (Or.inl ⟨by rfl, ?hyq22_2⟩) (by assumption) ?restq22_2
          case hyq22_2 => (intro w hSw; (try dsimp only at hSw); go_simp; try with_reducible rfl)
          try simp only [Act.put, List.setIfInBounds_toArray, List.set_cons_zero, List.set_cons_succ]
          refine take_of (some 75) (i := 7) (v := ?vq22_7) rfl rfl (by kernel_rfl) (by kernel_rfl) (by kernel_rfl) (fun _ _ _ h => h) (Or.inl ⟨by rfl, ?hyq22_7⟩) (by assumption) ?restq22_7
          case hyq22_7 => (intro w hSw; (try dsimp only at hSw); go_simp; try with_reducible rfl)
          try simp only [Act.put, List.setIfInBounds_toArray, List.set_cons_zero, List.set_cons_succ]
          refine wpAnyH_ready (rs := [3]) (by kernel_rfl) (by simp) ?_
          refine AllReadyH.cons rfl (fun K hK => ?_) AllReadyH.nil
          go_simp
          (go_at_call 13; refine HSM.out.mono ?_; rintro e w' ⟨rfl, rfl⟩)
          go_wp2_with fail
          refine hK.out _ _ (by (try dsimp only); go_keep) (fun hHeld => ?_)
          clear hK K
          try simp only [Act.put, List.setIfInBounds_toArray, List.set_cons_zero, List.set_cons_succ]
          refine take_of (some 72) (i := 4) (v := ?vq22_4) rfl rfl (by kernel_rfl) (by kernel_rfl) (by kernel_rfl) (fun _ _ _ h => h) (Or.inl ⟨by rfl, ?hyq22_4⟩) (by assumption) ?restq22_4
          case hyq22_4 => (intro w hSw; (try dsimp only at hSw); go_simp; try with_reducible rfl)
          try simp only [Act.put, List.setIfInBounds_toArray, List.set_cons_zero, List.set_cons_succ]
          refine take_of (some 73) (i := 5) (v := ?vq22_5) rfl rfl (by kernel_rfl) (by kernel_rfl) (by kernel_rfl) (fun _ _ _ h => h) (Or.inl ⟨by rfl, ?hyq22_5⟩) (by assumption) ?restq22_5
          case hyq22_5 => (intro w hSw; (try dsimp only at hSw); go_simp; try with_reducible rfl)
          try simp only [Act.put, List.setIfInBounds_toArray, List.set_cons_zero, List.set_cons_succ]
          refine take_of (some 74) (i := 6) (v := ?vq22_6) rfl rfl (by kernel_rfl) (by kernel_rfl) (by kernel_rfl) (fun _ _ _ h => h) (Or.inl ⟨by rfl, ?hyq22_6⟩) (by assumption) ?restq22_6
          case hyq22_6 => (intro w hSw; (try dsimp only at hSw); go_simp; try with_reducible rfl)
          try simp only [Act.put, List.setIfInBounds_toArray, List.set_cons_zero, List.set_cons_succ]
          refine wpAnyH_done (by kernel_rfl) ?_ _
          refine NoPanic.normal ?_
          clear em hm2 m0 m1
          go_wp2_with fail
          go_loopw [75] (fun i wr => ∃ r : Nat, r ≤ m ∧ i = .int .i64 r ∧ Hid (Wr wr (w.heap.size + 1 + 1 + 1) (some ⟨h, 0, none⟩) n (addO o L r)) ∧ Hid (∀ k, k < n → wr.cell? ⟨g, k, none⟩ = some (.int .i64 (o k : Int))) ∧ Below w.heap.size w wr) (fun i _ => m - (intOf i).toNat)
          case atStart => exact ⟨0, Nat.zero_le _, rfl, Lib.hid HW6.out, Lib.hid HC6.out, bl_drew B6.out⟩
          case round =>
            obtain ⟨r, hr2, rfl, HWr, HCr, hbr⟩ := hrel
            by_cases hlt2 : r < m
            · have cg := HCr.out r (by omega)
              have hol := HOK.out.lt r (by omega)
              obtain ⟨h', e, q1, q2, q3, q4⟩ := HWr.out.2 (by omega)
              obtain rfl : h = h' := by simpa using e
              have hlen := HWr.out.1
              obtain ⟨x, hx⟩ : ∃ x, (addO o L r)[o r]? = some x := ⟨(addO o L r)[o r]'(by omega), List.getElem?_eq_getElem _⟩
              have ch := q3 _ _ hx
              have cf := q4 (o r)
              have hxb := addO_bd (by omega) HLbd.out r x (List.mem_of_getElem? hx)
              have HX := Lib.hid (addO_next hx)
              have r0 : (0 : Int) ≤ (r : Int) := by omega
              have r1 : (r : Int) < (m : Int) := by omega
              have o0 : (0 : Int) ≤ (o r : Int) := by omega
              have o1 : (o r : Int) < (n : Int) := by omega
              have HQ := Lib.hid (show ∀ k, k < n → (wr.setCell ⟨h, o r, none⟩ (.int .i64 (x + 1))).cell? ⟨g, k, none⟩ = some (.int .i64 (o k : Int)) from fun k hk => by rw [World.cell?_setCell_far _ _ _ _ (by show h ≠ g; exact fun e => hgh e.symm)]; exact HCr.out k hk)
              have ex : IntKind.i64.wrap (x + 1) = x + 1 := IntWalk.i64_in _ (by omega)
              clear q3 q4 hx e
              go_wp2
              go_roundw
              case rel => exact ⟨r + 1, by omega, by go_num, Lib.hid (by rw [HX.out]; exact wr_set HWr.out hol), HQ, hbr.setCell (by show w.heap.size ≤ h; omega) _⟩
              case measure => simp [intOf]; omega
            · obtain rfl : m = r := by omega
              go_wp2
              go_ret2
              rw [HE.out]
              exact rets_of (base := w.heap.size + 1 + 1 + 1) HWr.out (by omega) hbr
end Go.Proofs.Ytblgeehdngejpaa
