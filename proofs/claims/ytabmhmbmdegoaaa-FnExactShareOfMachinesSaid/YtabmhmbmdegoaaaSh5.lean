/-
  ShareOfMachines: the closure at a full share.
-/
import Derived.Test.YtabmhmbmdegoaaaSh4
namespace Go.Proofs.Ytabmhmbmdegoaaa
open Go.RowKit
set_option linter.unusedVariables false
attribute [local go_sem ↓] Go.wp_at_zero Go.wp_at_succ

def mx (x y : Int) : Int := if x < y then y else x
theorem mx_max (x y : Int) : mx x y = max x y := by unfold mx; split <;> omega
theorem run_mx {P : Program} {w : World} (ts : Array TypeId) (t : TypeId) (k k' : IntKind) (x y : Int) : (Builtin.max_ ts t #[.int k x, .int k' y]).run P w = .ok (.int k (mx x y)) w := by
  rw [run_max_int2]; rfl
attribute [local go_sem high] run_mx
theorem two_start (w : World) : Two w.heap.size ((w.alloc (.cells #[] 3)).alloc (.cells #[] 3)) (.slice (some ⟨w.heap.size, 0, none⟩) 0 0) (.slice (some ⟨w.heap.size + 1, 0, none⟩) 0 0) [] [] :=
  ⟨(own_empty (heap_alloc_new w _) (Nat.le_refl _)).alloc _, own_empty (by have := heap_alloc_new (w.alloc (.cells #[] 3)) (.cells #[] 3); simpa using this) (by omega), fun g h1 h2 => by simp [Value.ownBlock] at h1 h2; omega⟩
set_option maxHeartbeats 4000000 in
theorem sh_zero (pb pm pn pl : Nat) (a h c a' h' c' : Int) (A : Option Addr) (n cp : Nat) (xs : List Cst) (hn : n ≤ 8) (hxl : xs.length = n) (hm : machB a h c = true) (hm' : machB a' h' c' = true) (hx : castsB xs = true) : ShAll pb pm pn pl a h c a' h' c' A n cp xs 0 := by
  intro A1 k k1 L u w hLf s hw hk1 hbl
  have hl := hw.1
  have S := Lib.hid s
  have HW := Lib.hid hw
  obtain ⟨R, r⟩ := u
  have HP := Lib.hid (fun b => pk_diff L b xs.length k (by omega))
  have HL := Lib.hid (fun b => pk_len L b)
  have HM := Lib.hid (And.intro hm (And.intro hm' hx))
  obtain ⟨i0, hi0, hi1, hi2, hi3⟩ := info_parts infoI
  have h1 := s.lt; have h2 := s.hm; have h3 := s.hn; have h4 := s.hl
  have e0 := s.e0
  have hkn : k = n := by omega
  subst hkn
  clear s hw hm hm' hx
  go_enter Try.func68, Try.ntmps68
  go_wp2
  go_loopw [8, 9, 36] (fun u v i wr => ∃ j : Nat, j ≤ k ∧ i = .int .i64 j ∧ Two w.heap.size wr u v (pk L true j) (pk L false j) ∧ Below w.heap.size w wr) (fun _ _ i _ => k - (intOf i).toNat)
  case atStart => exact ⟨0, Nat.zero_le _, rfl, two_start w, bl_alloc (bl_alloc (Below.refl _ _) _) _⟩
  case round =>
    obtain ⟨j, hj, rfl, ht, hbj⟩ := hrel
    have HT := Lib.hid ht
    have BJ := Lib.hid hbj
    have hsz := hbj.size
    have hlt1 := HL.out true j
    have hlt2 := HL.out false j
    by_cases hlt : j < k
    · obtain ⟨bo, offo, x, rfl, hbB, hik, hci⟩ := (HW.out.rd.below hbj).atI hlt
      have hb0 : bo < wr.heap.size := by omega
      clear hbj ht
      by_cases hx0 : x = 0
      · subst hx0
        have HY := Lib.hid (pk_yes (b := true) hik rfl)
        have HN := Lib.hid (pk_no (b := false) hik (by decide))
        clear hik
        go_wp2_with (at_builtin; refine wpList_append_own_at _ rfl _ _ 42 rfl w.heap.size 3 i0 (.int .i64 0) 1 8 Try.underlying42 hi0 hi1 hi2 hi3 rfl (by decide) _ _ _ rfl ((HT.out.a.alloc _)) ⟨wr.heap.size, 0, none⟩ 1 1 [.int .i64 ((j : Int))] rfl rfl ?yc1 ?yc2 ?yc3 ?yc4 ?yc5 ?_)
        case yc1 => exact cell_one_new _ _ _
        case yc2 => first | rfl | (intro u hu; simp at hu; subst hu; rfl)
        case yc3 => unfold maxLen; omega
        case yc4 => omega
        case yc5 => simp; omega
        intro v1 w3 hown3 hg3 _ hat3
        have HT3 := Lib.hid (HT.out.left hown3 hg3 (by simpa using hat3))
        have HB3 := Lib.hid (below_grow BJ.out HT.out.a hg3 (Nat.le_refl _) hsz)
        clear hown3 hg3 hat3
        go_wp2
        go_roundw
        case rel => exact ⟨j + 1, by omega, by go_num, by rw [HY.out, HN.out]; exact HT3.out, HB3.out⟩
        case measure => simp [intOf]; omega
      · have HY := Lib.hid (pk_yes (b := false) hik (by simp [hx0]))
        have HN := Lib.hid (pk_no (b := true) hik (by simp [hx0]))
        clear hik
        go_wp2_with (at_builtin; refine wpList_append_own_at _ rfl _ _ 42 rfl w.heap.size 3 i0 (.int .i64 0) 1 8 Try.underlying42 hi0 hi1 hi2 hi3 rfl (by decide) _ _ _ rfl ((HT.out.b.alloc _)) ⟨wr.heap.size, 0, none⟩ 1 1 [.int .i64 ((j : Int))] rfl rfl ?nc1 ?nc2 ?nc3 ?nc4 ?nc5 ?_)
        case nc1 => exact cell_one_new _ _ _
        case nc2 => first | rfl | (intro u hu; simp at hu; subst hu; rfl)
        case nc3 => unfold maxLen; omega
        case nc4 => omega
        case nc5 => simp; omega
        intro v1 w3 hown3 hg3 _ hat3
        have HT3 := Lib.hid (HT.out.right hown3 hg3 (by simpa using hat3))
        have HB3 := Lib.hid (below_grow BJ.out HT.out.b hg3 (Nat.le_refl _) hsz)
        clear hown3 hg3 hat3
        go_wp2
        go_roundw
        case rel => exact ⟨j + 1, by omega, by go_num, by rw [HY.out, HN.out]; exact HT3.out, HB3.out⟩
        case measure => simp [intOf]; omega
    · obtain rfl : j = k := by omega
      obtain ⟨A2, c2, rfl, hw2⟩ := own_wr ht.a
      have hc2 := own_cap ht.a
      obtain ⟨A3, c3, rfl, hw3⟩ := own_wr ht.b
      have hc3 := own_cap ht.b
      have sj := S.out.below hbj
      have SJ := Lib.hid sj
      have hslt := sj.lt
      have HC := Lib.hid (fun (W : World) (hb : Below wr.heap.size wr W) => implTime_any a h c A A2 j cp (pk L true j).length c2 xs (pk L true j) W ⟨((sj.rd.more (by omega)).below hb).more hb.size, (hw2.below hb).rd, by omega, by omega, hc2⟩ (ordB_of HM.out.1 HM.out.2.2 (HP.out true)))
      have HC' := Lib.hid (fun (W : World) (hb : Below wr.heap.size wr W) => implTime_any a' h' c' A A3 j cp (pk L false j).length c3 xs (pk L false j) W ⟨((sj.rd.more (by omega)).below hb).more hb.size, (hw3.below hb).rd, by omega, by omega, hc3⟩ (ordB_of HM.out.2.1 HM.out.2.2 (HP.out false)))
      obtain ⟨t1, ht1⟩ : ∃ t, (csTo h c xs (pk L true j) a (pk L true j).length).t = t := ⟨_, rfl⟩
      obtain ⟨t2, ht2⟩ : ∃ t, (csTo h' c' xs (pk L false j) a' (pk L false j).length).t = t := ⟨_, rfl⟩
      have hF : max t1 t2 = shT a h c a' h' c' xs L := by unfold shT tmV; rw [hl, ht1, ht2]
      rw [ht1] at HC
      rw [ht2] at HC'
      obtain ⟨T, hT⟩ : ∃ T, max t1 t2 = T := ⟨_, rfl⟩
      rw [hT] at hF
      have HF := Lib.hid hF
      have hmx : mx t1 t2 = T := by rw [mx_max]; exact hT
      have c0 := sj.c0; have c1 := sj.c1; have c2' := sj.c2; have d0 := sj.d0; have d1 := sj.d1; have d2 := sj.d2; have e0' := sj.e0; have e1 := sj.e1; have fr := sj.fr; have fq := sj.fq
      obtain ⟨AB, cB, eB, _⟩ := sj.b
      dsimp only at e1 eB hbl
      have HWL := Lib.hid (HW.out.below hbj)
      clear hbj ht hw2 hw3 ht1 ht2 hT hF sj e0
      by_cases hneg : r < 0 ∨ T < r
      · have HN := Lib.hid (show shStep (shT a h c a' h' c' xs) (R, r) L = (L, T) by rw [shStep_new (by rw [← HF.out]; exact hneg), ← HF.out])
        have HNG := Lib.hid hneg
        clear hneg
        go_wp2_with fail
        refine wp_region_noPanic ?_
        refine wp_region_held_drew (S := (fun w' => ((w'.cell? ⟨pm, 0, none⟩ = some (.int .i64 a) ∧ w'.cell? ⟨pm, 1, none⟩ = some (.int .i64 h) ∧ w'.cell? ⟨pm, 2, none⟩ = some (.int .i64 c)) ∧ (w'.cell? ⟨pn, 0, none⟩ = some (.int .i64 a') ∧ w'.cell? ⟨pn, 1, none⟩ = some (.int .i64 h') ∧ w'.cell? ⟨pn, 2, none⟩ = some (.int .i64 c')) ∧ w'.cell? ⟨pl, 0, none⟩ = some (.slice A j cp)))) (by kernel_rfl) (by (try dsimp only); go_keep) (fun hHeld => ?_)
        refine take_of (some 52) (i := 0) (v := ?vq1_0) rfl rfl (by kernel_rfl) (by kernel_rfl) (by kernel_rfl) (fun _ _ _ h => h) (Or.inl ⟨by rfl, ?hyq1_0⟩) (by assumption) ?restq1_0
        case hyq1_0 => (intro w hSw; (try dsimp only at hSw); go_simp; try with_reducible rfl)
        try simp only [Act.put, List.setIfInBounds_toArray, List.set_cons_zero, List.set_cons_succ]
        refine take_of (some 53) (i := 1) (v := ?vq1_1) rfl rfl (by kernel_rfl) (by kernel_rfl) (by kernel_rfl) (fun _ _ _ h => h) (Or.inl ⟨by rfl, ?hyq1_1⟩) (by assumption) ?restq1_1
        case hyq1_1 => (intro w hSw; (try dsimp only at hSw); go_simp; try with_reducible rfl)
        try simp only [Act.put, List.setIfInBounds_toArray, List.set_cons_zero, List.set_cons_succ]
        refine take_of (some 54) (i := 2) (v := ?vq1_2) rfl rfl (by kernel_rfl) (by kernel_rfl) (by kernel_rfl) (fun _ _ _ h => h) (Or.inl ⟨by rfl, ?hyq1_2⟩) (by assumption) ?restq1_2
        case hyq1_2 => (intro w hSw; (try dsimp only at hSw); go_simp; try with_reducible rfl)
        try simp only [Act.put, List.setIfInBounds_toArray, List.set_cons_zero, List.set_cons_succ]
        refine take_of (some 56) (i := 4) (v := ?vq1_4) rfl rfl (by kernel_rfl) (by kernel_rfl) (by kernel_rfl) (fun _ _ _ h => h) (Or.inl ⟨by rfl, ?hyq1_4⟩) (by assumption) ?restq1_4
        case hyq1_4 => (intro w hSw; (try dsimp only at hSw); go_simp; try with_reducible rfl)
        try simp only [Act.put, List.setIfInBounds_toArray, List.set_cons_zero, List.set_cons_succ]
        refine take_of (some 57) (i := 5) (v := ?vq1_5) rfl rfl (by kernel_rfl) (by kernel_rfl) (by kernel_rfl) (fun _ _ _ h => h) (Or.inl ⟨by rfl, ?hyq1_5⟩) (by assumption) ?restq1_5
        case hyq1_5 => (intro w hSw; (try dsimp only at hSw); go_simp; try with_reducible rfl)
        try simp only [Act.put, List.setIfInBounds_toArray, List.set_cons_zero, List.set_cons_succ]
        refine take_of (some 58) (i := 6) (v := ?vq1_6) rfl rfl (by kernel_rfl) (by kernel_rfl) (by kernel_rfl) (fun _ _ _ h => h) (Or.inl ⟨by rfl, ?hyq1_6⟩) (by assumption) ?restq1_6
        case hyq1_6 => (intro w hSw; (try dsimp only at hSw); go_simp; try with_reducible rfl)
        try simp only [Act.put, List.setIfInBounds_toArray, List.set_cons_zero, List.set_cons_succ]
        refine wpAnyH_ready (rs := [3]) (by kernel_rfl) (by simp) ?_
        refine AllReadyH.cons rfl (fun K hK => ?_) AllReadyH.nil
        go_simp
        (go_at_call 61; refine (HC.out _ (bl_drew (Below.refl _ _))).mono ?_; rintro e w6 ⟨rfl, hb⟩; have hb6 : Below wr.heap.size wr w6 := (bl_drew (Below.refl wr.heap.size wr)).trans hb; have x0 := (hb6.cell (p := ⟨pm, 0, none⟩) (by show pm < _; omega)).trans c0; have x1 := (hb6.cell (p := ⟨pm, 1, none⟩) (by show pm < _; omega)).trans c1; have x2 := (hb6.cell (p := ⟨pm, 2, none⟩) (by show pm < _; omega)).trans c2'; have x3 := (hb6.cell (p := ⟨pn, 0, none⟩) (by show pn < _; omega)).trans d0; have x4 := (hb6.cell (p := ⟨pn, 1, none⟩) (by show pn < _; omega)).trans d1; have x5 := (hb6.cell (p := ⟨pn, 2, none⟩) (by show pn < _; omega)).trans d2; have x6 := (hb6.cell (p := ⟨pl, 0, none⟩) (by show pl < _; omega)).trans e0'; have HB6 := Lib.hid hb6; clear hb hb6)
        go_wp2_with fail
        refine hK.out _ _ (by (try dsimp only); go_keep) (fun hHeld => ?_)
        clear hK K
        try simp only [Act.put, List.setIfInBounds_toArray, List.set_cons_zero, List.set_cons_succ]
        refine wpAnyH_ready (rs := [7]) (by kernel_rfl) (by simp) ?_
        refine AllReadyH.cons rfl (fun K hK => ?_) AllReadyH.nil
        go_simp
        (go_at_call 61; refine (HC'.out _ HB6.out).mono ?_; rintro e w7 ⟨rfl, hb⟩; have hb7 := HB6.out.trans (hb.mono HB6.out.size); have y0 := (hb7.cell (p := ⟨pm, 0, none⟩) (by show pm < _; omega)).trans c0; have y1 := (hb7.cell (p := ⟨pm, 1, none⟩) (by show pm < _; omega)).trans c1; have y2 := (hb7.cell (p := ⟨pm, 2, none⟩) (by show pm < _; omega)).trans c2'; have y3 := (hb7.cell (p := ⟨pn, 0, none⟩) (by show pn < _; omega)).trans d0; have y4 := (hb7.cell (p := ⟨pn, 1, none⟩) (by show pn < _; omega)).trans d1; have y5 := (hb7.cell (p := ⟨pn, 2, none⟩) (by show pn < _; omega)).trans d2; have y6 := (hb7.cell (p := ⟨pl, 0, none⟩) (by show pl < _; omega)).trans e0'; have z1 := (hb7.cell (p := ⟨pb + 1, 0, none⟩) (by show pb + 1 < _; omega)).trans e1; have z2 := (hb7.cell (p := ⟨pb, 0, none⟩) (by show pb < _; omega)).trans eB; have z3 := (hb7.frozen (p := ⟨pb, 0, none⟩) (by show pb < _; omega)).trans fr; have z4 := (hb7.frozen (p := ⟨pb + 1, 0, none⟩) (by show pb + 1 < _; omega)).trans fq; have hs7 := hb7.size; have HB7 := Lib.hid hb7; clear hb hb7)
        go_wp2_with fail
        refine hK.out _ _ (by (try dsimp only); go_keep) (fun hHeld => ?_)
        clear hK K
        try simp only [Act.put, List.setIfInBounds_toArray, List.set_cons_zero, List.set_cons_succ]
        refine take_of (some 60) (i := 8) (v := ?vq1_8) rfl rfl (by kernel_rfl) (by kernel_rfl) (by kernel_rfl) (fun _ _ _ h => h) (Or.inl ⟨by rfl, ?hyq1_8⟩) (by assumption) ?restq1_8
        case hyq1_8 => (intro w hSw; (try dsimp only at hSw); go_simp; try with_reducible rfl)
        try simp only [Act.put, List.setIfInBounds_toArray, List.set_cons_zero, List.set_cons_succ]
        refine take_of (some 12) (i := 9) (v := ?vq1_9) rfl rfl (by kernel_rfl) (by kernel_rfl) (by kernel_rfl) (fun _ _ _ h => h) (Or.inl ⟨by rfl, ?hyq1_9⟩) (by assumption) ?restq1_9
        case hyq1_9 => (intro w hSw; (try dsimp only at hSw); go_simp; try with_reducible rfl)
        try simp only [Act.put, List.setIfInBounds_toArray, List.set_cons_zero, List.set_cons_succ]
        refine wpAnyH_done (by kernel_rfl) ?_ _
        refine NoPanic.normal ?_
        clear c0 c1 c2' d0 d1 d2 e0' x0 x1 x2 x3 x4 x5 x6 y0 y1 y2 y3 y4 y5 y6 e1 eB fr fq
        by_cases hn0 : r < 0
        · skip
          go_wp2
          (first | go_end0 | refine bodyPost_ret (results_none rfl _ _ _) rfl ?_)
          rw [show sh (shT a h c a' h' c' xs) 0 L (R, r) = (L, T) from HN.out]
          exact ⟨rfl, (SJ.out.below HB7.out).store hl (HWL.out.below HB7.out), fr_set (fr_set (fr_bl (BJ.out.trans (HB7.out.mono hsz))) (by omega) (by omega) _ _) (by omega) (by omega) _ _, by show L.length ≤ 8; omega⟩
        · have htl : T < r := by
            rcases HNG.out with h | h
            · omega
            · exact h
          go_wp2
          (first | go_end0 | refine bodyPost_ret (results_none rfl _ _ _) rfl ?_)
          rw [show sh (shT a h c a' h' c' xs) 0 L (R, r) = (L, T) from HN.out]
          exact ⟨rfl, (SJ.out.below HB7.out).store hl (HWL.out.below HB7.out), fr_set (fr_set (fr_bl (BJ.out.trans (HB7.out.mono hsz))) (by omega) (by omega) _ _) (by omega) (by omega) _ _, by show L.length ≤ 8; omega⟩
      · have HN := Lib.hid (show shStep (shT a h c a' h' c' xs) (R, r) L = (R, r) from shStep_old (by rw [← HF.out]; exact hneg))
        have hn0 : ¬ r < 0 := fun h => hneg (.inl h)
        have htl : ¬ T < r := fun h => hneg (.inr h)
        clear hneg
        go_wp2_with fail
        refine wp_region_noPanic ?_
        refine wp_region_held_drew (S := (fun w' => ((w'.cell? ⟨pm, 0, none⟩ = some (.int .i64 a) ∧ w'.cell? ⟨pm, 1, none⟩ = some (.int .i64 h) ∧ w'.cell? ⟨pm, 2, none⟩ = some (.int .i64 c)) ∧ (w'.cell? ⟨pn, 0, none⟩ = some (.int .i64 a') ∧ w'.cell? ⟨pn, 1, none⟩ = some (.int .i64 h') ∧ w'.cell? ⟨pn, 2, none⟩ = some (.int .i64 c')) ∧ w'.cell? ⟨pl, 0, none⟩ = some (.slice A j cp)))) (by kernel_rfl) (by (try dsimp only); go_keep) (fun hHeld => ?_)
        refine take_of (some 52) (i := 0) (v := ?vq2_0) rfl rfl (by kernel_rfl) (by kernel_rfl) (by kernel_rfl) (fun _ _ _ h => h) (Or.inl ⟨by rfl, ?hyq2_0⟩) (by assumption) ?restq2_0
        case hyq2_0 => (intro w hSw; (try dsimp only at hSw); go_simp; try with_reducible rfl)
        try simp only [Act.put, List.setIfInBounds_toArray, List.set_cons_zero, List.set_cons_succ]
        refine take_of (some 53) (i := 1) (v := ?vq2_1) rfl rfl (by kernel_rfl) (by kernel_rfl) (by kernel_rfl) (fun _ _ _ h => h) (Or.inl ⟨by rfl, ?hyq2_1⟩) (by assumption) ?restq2_1
        case hyq2_1 => (intro w hSw; (try dsimp only at hSw); go_simp; try with_reducible rfl)
        try simp only [Act.put, List.setIfInBounds_toArray, List.set_cons_zero, List.set_cons_succ]
        refine take_of (some 54) (i := 2) (v := ?vq2_2) rfl rfl (by kernel_rfl) (by kernel_rfl) (by kernel_rfl) (fun _ _ _ h => h) (Or.inl ⟨by rfl, ?hyq2_2⟩) (by assumption) ?restq2_2
        case hyq2_2 => (intro w hSw; (try dsimp only at hSw); go_simp; try with_reducible rfl)
        try simp only [Act.put, List.setIfInBounds_toArray, List.set_cons_zero, List.set_cons_succ]
        refine take_of (some 56) (i := 4) (v := ?vq2_4) rfl rfl (by kernel_rfl) (by kernel_rfl) (by kernel_rfl) (fun _ _ _ h => h) (Or.inl ⟨by rfl, ?hyq2_4⟩) (by assumption) ?restq2_4
        case hyq2_4 => (intro w hSw; (try dsimp only at hSw); go_simp; try with_reducible rfl)
        try simp only [Act.put, List.setIfInBounds_toArray, List.set_cons_zero, List.set_cons_succ]
        refine take_of (some 57) (i := 5) (v := ?vq2_5) rfl rfl (by kernel_rfl) (by kernel_rfl) (by kernel_rfl) (fun _ _ _ h => h) (Or.inl ⟨by rfl, ?hyq2_5⟩) (by assumption) ?restq2_5
        case hyq2_5 => (intro w hSw; (try dsimp only at hSw); go_simp; try with_reducible rfl)
        try simp only [Act.put, List.setIfInBounds_toArray, List.set_cons_zero, List.set_cons_succ]
        refine take_of (some 58) (i := 6) (v := ?vq2_6) rfl rfl (by kernel_rfl) (by kernel_rfl) (by kernel_rfl) (fun _ _ _ h => h) (Or.inl ⟨by rfl, ?hyq2_6⟩) (by assumption) ?restq2_6
        case hyq2_6 => (intro w hSw; (try dsimp only at hSw); go_simp; try with_reducible rfl)
        try simp only [Act.put, List.setIfInBounds_toArray, List.set_cons_zero, List.set_cons_succ]
        refine wpAnyH_ready (rs := [3]) (by kernel_rfl) (by simp) ?_
        refine AllReadyH.cons rfl (fun K hK => ?_) AllReadyH.nil
        go_simp
        (go_at_call 61; refine (HC.out _ (bl_drew (Below.refl _ _))).mono ?_; rintro e w6 ⟨rfl, hb⟩; have hb6 : Below wr.heap.size wr w6 := (bl_drew (Below.refl wr.heap.size wr)).trans hb; have x0 := (hb6.cell (p := ⟨pm, 0, none⟩) (by show pm < _; omega)).trans c0; have x1 := (hb6.cell (p := ⟨pm, 1, none⟩) (by show pm < _; omega)).trans c1; have x2 := (hb6.cell (p := ⟨pm, 2, none⟩) (by show pm < _; omega)).trans c2'; have x3 := (hb6.cell (p := ⟨pn, 0, none⟩) (by show pn < _; omega)).trans d0; have x4 := (hb6.cell (p := ⟨pn, 1, none⟩) (by show pn < _; omega)).trans d1; have x5 := (hb6.cell (p := ⟨pn, 2, none⟩) (by show pn < _; omega)).trans d2; have x6 := (hb6.cell (p := ⟨pl, 0, none⟩) (by show pl < _; omega)).trans e0'; have HB6 := Lib.hid hb6; clear hb hb6)
        go_wp2_with fail
        refine hK.out _ _ (by (try dsimp only); go_keep) (fun hHeld => ?_)
        clear hK K
        try simp only [Act.put, List.setIfInBounds_toArray, List.set_cons_zero, List.set_cons_succ]
        refine wpAnyH_ready (rs := [7]) (by kernel_rfl) (by simp) ?_
        refine AllReadyH.cons rfl (fun K hK => ?_) AllReadyH.nil
        go_simp
        (go_at_call 61; refine (HC'.out _ HB6.out).mono ?_; rintro e w7 ⟨rfl, hb⟩; have hb7 := HB6.out.trans (hb.mono HB6.out.size); have y0 := (hb7.cell (p := ⟨pm, 0, none⟩) (by show pm < _; omega)).trans c0; have y1 := (hb7.cell (p := ⟨pm, 1, none⟩) (by show pm < _; omega)).trans c1; have y2 := (hb7.cell (p := ⟨pm, 2, none⟩) (by show pm < _; omega)).trans c2'; have y3 := (hb7.cell (p := ⟨pn, 0, none⟩) (by show pn < _; omega)).trans d0; have y4 := (hb7.cell (p := ⟨pn, 1, none⟩) (by show pn < _; omega)).trans d1; have y5 := (hb7.cell (p := ⟨pn, 2, none⟩) (by show pn < _; omega)).trans d2; have y6 := (hb7.cell (p := ⟨pl, 0, none⟩) (by show pl < _; omega)).trans e0'; have z1 := (hb7.cell (p := ⟨pb + 1, 0, none⟩) (by show pb + 1 < _; omega)).trans e1; have z2 := (hb7.cell (p := ⟨pb, 0, none⟩) (by show pb < _; omega)).trans eB; have z3 := (hb7.frozen (p := ⟨pb, 0, none⟩) (by show pb < _; omega)).trans fr; have z4 := (hb7.frozen (p := ⟨pb + 1, 0, none⟩) (by show pb + 1 < _; omega)).trans fq; have hs7 := hb7.size; have HB7 := Lib.hid hb7; clear hb hb7)
        go_wp2_with fail
        refine hK.out _ _ (by (try dsimp only); go_keep) (fun hHeld => ?_)
        clear hK K
        try simp only [Act.put, List.setIfInBounds_toArray, List.set_cons_zero, List.set_cons_succ]
        refine take_of (some 60) (i := 8) (v := ?vq2_8) rfl rfl (by kernel_rfl) (by kernel_rfl) (by kernel_rfl) (fun _ _ _ h => h) (Or.inl ⟨by rfl, ?hyq2_8⟩) (by assumption) ?restq2_8
        case hyq2_8 => (intro w hSw; (try dsimp only at hSw); go_simp; try with_reducible rfl)
        try simp only [Act.put, List.setIfInBounds_toArray, List.set_cons_zero, List.set_cons_succ]
        refine take_of (some 12) (i := 9) (v := ?vq2_9) rfl rfl (by kernel_rfl) (by kernel_rfl) (by kernel_rfl) (fun _ _ _ h => h) (Or.inl ⟨by rfl, ?hyq2_9⟩) (by assumption) ?restq2_9
        case hyq2_9 => (intro w hSw; (try dsimp only at hSw); go_simp; try with_reducible rfl)
        try simp only [Act.put, List.setIfInBounds_toArray, List.set_cons_zero, List.set_cons_succ]
        refine wpAnyH_done (by kernel_rfl) ?_ _
        refine NoPanic.normal ?_
        clear c0 c1 c2' d0 d1 d2 e0' x0 x1 x2 x3 x4 x5 x6 y0 y1 y2 y3 y4 y5 y6 e1 eB fr fq
        go_wp2
        (first | go_end0 | refine bodyPost_ret (results_none rfl _ _ _) rfl ?_)
        rw [show sh (shT a h c a' h' c' xs) 0 L (R, r) = (R, r) from HN.out]
        exact ⟨rfl, SJ.out.below HB7.out, fr_bl (BJ.out.trans (HB7.out.mono hsz)), hbl⟩
end Go.Proofs.Ytabmhmbmdegoaaa
