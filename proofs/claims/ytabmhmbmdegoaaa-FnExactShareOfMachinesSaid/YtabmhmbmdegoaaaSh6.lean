/-
  ShareOfMachines: the closure at a beginning of a share.
-/
import Derived.Test.YtabmhmbmdegoaaaSh5
import Derived.Deep.CutRange
namespace Go.Proofs.Ytabmhmbmdegoaaa
open Go.RowKit
set_option linter.unusedVariables false
attribute [local go_sem ↓] Go.wp_at_zero Go.wp_at_succ

set_option maxHeartbeats 4000000 in
theorem sh_succ (pb pm pn pl : Nat) (a h c a' h' c' : Int) (A : Option Addr) (n cp : Nat) (xs : List Cst) (hn : n ≤ 8) (f : Nat) (ih : ShAll pb pm pn pl a h c a' h' c' A n cp xs f) : ShAll pb pm pn pl a h c a' h' c' A n cp xs (f + 1) := by
  intro A1 k k1 L u w hLf s hw hk1 hbl
  have hl := hw.1
  have S := Lib.hid s
  have HW := Lib.hid hw
  have IH := Lib.hid ih
  obtain ⟨i0, hi0, hi1, hi2, hi3⟩ := info_parts infoI
  have h1 := s.lt; have h2 := s.hm; have h3 := s.hn; have h4 := s.hl
  have e0 := s.e0
  have pe2 := s.e2
  have hi : (k : Int) < (n : Int) := by omega
  clear s hw ih
  go_enter Try.func68, Try.ntmps68
  go_upto_region 1 with fail
  go_cut [] from 18 to 24 (fun wx => Hid (StS wx pb pm pn pl a h c a' h' c' A n cp xs (sh (shT a h c a' h' c' xs) f (L ++ [0]) u)) ∧ Hid (Fr pb (pb + 2) w wx) ∧ (sh (shT a h c a' h' c' xs) f (L ++ [0]) u).1.length ≤ 8)
  case first =>
    refine wp_region_noPanic ?_
    refine wp_region_held_drew (S := (fun w' => w'.cell? ⟨pb + 2, 0, none⟩ = some (.func (.func 68) #[] #[.pointer (some ⟨pl, 0, none⟩), .pointer (some ⟨pb + 2, 0, none⟩), .pointer (some ⟨pm, 0, none⟩), .pointer (some ⟨pn, 0, none⟩), .pointer (some ⟨pb + 1, 0, none⟩), .pointer (some ⟨pb, 0, none⟩)]))) (by kernel_rfl) (by (try dsimp only); go_keep) (fun hHeld => ?_)
    refine take_of (some 18) (i := 0) (v := ?vq1_0) rfl rfl (by kernel_rfl) (by kernel_rfl) (by kernel_rfl) (fun _ _ _ h => h) (Or.inl ⟨by rfl, ?hyq1_0⟩) (by assumption) ?restq1_0
    case hyq1_0 => (intro w hSw; (try dsimp only at hSw); go_simp; try with_reducible rfl)
    try simp only [Act.put, List.setIfInBounds_toArray, List.set_cons_zero, List.set_cons_succ]
    refine take_of (some 20) (i := 2) (v := ?vq1_2) rfl rfl (by kernel_rfl) (by kernel_rfl) (by kernel_rfl) (fun _ _ _ h => h) (Or.inl ⟨by rfl, ?hyq1_2⟩) (by assumption) ?restq1_2
    case hyq1_2 => (intro w hSw; (try dsimp only at hSw); go_simp; try with_reducible rfl)
    try simp only [Act.put, List.setIfInBounds_toArray, List.set_cons_zero, List.set_cons_succ]
    refine wpAnyH_ready (rs := [1,4]) (by kernel_rfl) (by simp) ?_
    refine AllReadyH.cons rfl (fun K hK => ?_) (AllReadyH.cons rfl (fun K hK => ?_) (AllReadyH.nil))
    · go_simp
      (skip)
      go_wp2_with fail
      refine hK.out _ _ (by (try dsimp only); go_keep) (fun hHeld => ?_)
      clear hK K
      try simp only [Act.put, List.setIfInBounds_toArray, List.set_cons_zero, List.set_cons_succ]
      refine wpAnyH_ready (rs := [3,4]) (by kernel_rfl) (by simp) ?_
      refine AllReadyH.cons rfl (fun K hK => ?_) (AllReadyH.cons rfl (fun K hK => ?_) (AllReadyH.nil))
      · rw [if_pos (by rfl)]
        (have hO : OwnG 3 1 w.heap.size w w.heap.size ((w.alloc (.cells #[] 3)).drew) (.slice (some ⟨w.heap.size, 0, none⟩) 0 0) 0 [] := (own_start w).below (bl_drew (Below.refl _ _)); refine wp_append_rd _ (.tmp 19) (.tmp 20) 42 (by rfl) _ 3 i0 Try.underlying42 hi0 hi1 hi2 hi3 _ 0 [] (by rfl) hO.own _ A1 k k1 L (by rfl) (HW.out.rd.below (bl_drew (bl_alloc (Below.refl _ _) _))) (by omega) (by first | (simp; done) | (simp; omega)) ?_; intro v1 w3 hown3 hg3 hat3; have ho3 := hO.step (by simpa using hown3) hg3 hat3; have hb3 : Below w.heap.size w w3 := ho3.to_below (Nat.le_refl _) (Nat.le_refl _); have hs3 := hb3.size; have pk3 := (hb3.cell (p := ⟨pb + 2, 0, none⟩) (by show pb + 2 < _; omega)).trans pe2; have HO3 := Lib.hid ho3; have HB3 := Lib.hid hb3; clear hg3; clear hO hown3 hat3 ho3 hb3)
        refine hK.out _ _ (by (try dsimp only); go_keep) (fun hHeld => ?_)
        clear hK K
        try simp only [Act.put, List.setIfInBounds_toArray, List.set_cons_zero, List.set_cons_succ]
        refine wpAnyH_ready (rs := [4]) (by kernel_rfl) (by simp) ?_
        refine AllReadyH.cons rfl (fun K hK => ?_) AllReadyH.nil
        go_simp
        (skip)
        go_wp2_with fail
        refine hK.out _ _ (by (try dsimp only); go_keep) (fun hHeld => ?_)
        clear hK K
        try simp only [Act.put, List.setIfInBounds_toArray, List.set_cons_zero, List.set_cons_succ]
        refine wpAnyH_ready (rs := [5]) (by kernel_rfl) (by simp) ?_
        refine AllReadyH.cons rfl (fun K hK => ?_) AllReadyH.nil
        rw [if_pos (by rfl)]
        (refine wp_append_own1 _ (.tmp 21) (.tmp 22) 42 (by rfl) _ 3 i0 Try.underlying42 hi0 hi1 hi2 hi3 v1 k (L.map (Value.int .i64)) (by rfl) (HO3.out.alloc _).own ⟨w3.heap.size, 0, none⟩ 0 (by rfl) (by simp) (by omega) (by simp; omega) ?_; intro v2 w5 hown5 hg5 hat5; have HN5 := HO3.out.push hown5 hg5 (by simpa using hat5); have hb5 : Below w.heap.size w w5 := HN5.to_below (Nat.le_refl _) (Nat.le_refl _); have hown6 : w5.ownsRow w.heap.size 3 1 v2 (k + 1) ((L ++ [0]).map (Value.int .i64)) := (by simpa using hown5); obtain ⟨A5, c5, rfl, hw5⟩ := own_wr hown6; have hc5 := own_cap hown6; have hs5 := hb5.size; have HW5 := Lib.hid hw5; have HB5 := Lib.hid hb5; have pk5 := (hb5.cell (p := ⟨pb + 2, 0, none⟩) (by show pb + 2 < _; omega)).trans pe2; clear hown5 hg5 hat5 HN5 hown6 hw5 hb5)
        refine hK.out _ _ (by (try dsimp only); go_keep) (fun hHeld => ?_)
        clear hK K
        try simp only [Act.put, List.setIfInBounds_toArray, List.set_cons_zero, List.set_cons_succ]
        refine wpAnyH_ready (rs := [6]) (by kernel_rfl) (by simp) ?_
        refine AllReadyH.cons rfl (fun K hK => ?_) AllReadyH.nil
        go_simp
        (go_at_call 68; refine (IH.out A5 (k + 1) c5 (L ++ [0]) u w5 (by rw [List.length_append, List.length_singleton]; omega) (S.out.below HB5.out) (wr_base HW5.out (by omega)) hc5 hbl).mono ?_; rintro e w6 ⟨rfl, hs6, hg6, hl6⟩; have pk6 := hs6.e2; have HS6 := Lib.hid hs6; have HG6 := Lib.hid (fr_trans (fr_bl HB5.out) hg6); clear hs6 hg6)
        go_wp2_with fail
        refine hK.out _ _ (by (try dsimp only); go_keep) (fun hHeld => ?_)
        clear hK K
        try simp only [Act.put, List.setIfInBounds_toArray, List.set_cons_zero, List.set_cons_succ]
        refine wpAnyH_done (by kernel_rfl) ?_ _
        refine NoPanic.normal ?_
        go_wp2_with fail
        go_meet
        exact ⟨HS6, HG6, hl6⟩
      · go_simp
        (skip)
        go_wp2_with fail
        refine hK.out _ _ (by (try dsimp only); go_keep) (fun hHeld => ?_)
        clear hK K
        try simp only [Act.put, List.setIfInBounds_toArray, List.set_cons_zero, List.set_cons_succ]
        refine wpAnyH_ready (rs := [3]) (by kernel_rfl) (by simp) ?_
        refine AllReadyH.cons rfl (fun K hK => ?_) AllReadyH.nil
        rw [if_pos (by rfl)]
        (have hO : OwnG 3 1 w.heap.size w w.heap.size (((w.alloc (.cells #[] 3)).alloc (.cells #[.int .i64 0] 3)).drew) (.slice (some ⟨w.heap.size, 0, none⟩) 0 0) 0 [] := ((own_start w).alloc _).below (bl_drew (Below.refl _ _)); refine wp_append_rd _ (.tmp 19) (.tmp 20) 42 (by rfl) _ 3 i0 Try.underlying42 hi0 hi1 hi2 hi3 _ 0 [] (by rfl) hO.own _ A1 k k1 L (by rfl) (HW.out.rd.below (bl_drew (bl_alloc (bl_alloc (Below.refl _ _) _) _))) (by omega) (by first | (simp; done) | (simp; omega)) ?_; intro v1 w3 hown3 hg3 hat3; have ho3 := hO.step (by simpa using hown3) hg3 hat3; have hb3 : Below w.heap.size w w3 := ho3.to_below (Nat.le_refl _) (Nat.le_refl _); have hs3 := hb3.size; have pk3 := (hb3.cell (p := ⟨pb + 2, 0, none⟩) (by show pb + 2 < _; omega)).trans pe2; have HO3 := Lib.hid ho3; have HB3 := Lib.hid hb3; have hc3 : w3.cell? ⟨w.heap.size + 1, 0, none⟩ = some (.int .i64 0) := (hg3.cell_far ⟨w.heap.size + 1, 0, none⟩ (by simp) (by simp [Value.ownBlock])).trans (by simp); clear hg3; clear hO hown3 hat3 ho3 hb3)
        refine hK.out _ _ (by (try dsimp only); go_keep) (fun hHeld => ?_)
        clear hK K
        try simp only [Act.put, List.setIfInBounds_toArray, List.set_cons_zero, List.set_cons_succ]
        refine wpAnyH_ready (rs := [5]) (by kernel_rfl) (by simp) ?_
        refine AllReadyH.cons rfl (fun K hK => ?_) AllReadyH.nil
        rw [if_pos (by rfl)]
        (refine wp_append_own1 _ (.tmp 21) (.tmp 22) 42 (by rfl) _ 3 i0 Try.underlying42 hi0 hi1 hi2 hi3 v1 k (L.map (Value.int .i64)) (by rfl) HO3.out.own ⟨w.heap.size + 1, 0, none⟩ 0 (by rfl) (hc3) (by omega) (by omega) ?_; intro v2 w5 hown5 hg5 hat5; have HN5 := HO3.out.step hown5 hg5 hat5; have hb5 : Below w.heap.size w w5 := HN5.to_below (Nat.le_refl _) (Nat.le_refl _); have hown6 : w5.ownsRow w.heap.size 3 1 v2 (k + 1) ((L ++ [0]).map (Value.int .i64)) := (by simpa using hown5); obtain ⟨A5, c5, rfl, hw5⟩ := own_wr hown6; have hc5 := own_cap hown6; have hs5 := hb5.size; have HW5 := Lib.hid hw5; have HB5 := Lib.hid hb5; have pk5 := (hb5.cell (p := ⟨pb + 2, 0, none⟩) (by show pb + 2 < _; omega)).trans pe2; clear hown5 hg5 hat5 HN5 hown6 hw5 hb5)
        refine hK.out _ _ (by (try dsimp only); go_keep) (fun hHeld => ?_)
        clear hK K
        try simp only [Act.put, List.setIfInBounds_toArray, List.set_cons_zero, List.set_cons_succ]
        refine wpAnyH_ready (rs := [6]) (by kernel_rfl) (by simp) ?_
        refine AllReadyH.cons rfl (fun K hK => ?_) AllReadyH.nil
        go_simp
        (go_at_call 68; refine (IH.out A5 (k + 1) c5 (L ++ [0]) u w5 (by rw [List.length_append, List.length_singleton]; omega) (S.out.below HB5.out) (wr_base HW5.out (by omega)) hc5 hbl).mono ?_; rintro e w6 ⟨rfl, hs6, hg6, hl6⟩; have pk6 := hs6.e2; have HS6 := Lib.hid hs6; have HG6 := Lib.hid (fr_trans (fr_bl HB5.out) hg6); clear hs6 hg6)
        go_wp2_with fail
        refine hK.out _ _ (by (try dsimp only); go_keep) (fun hHeld => ?_)
        clear hK K
        try simp only [Act.put, List.setIfInBounds_toArray, List.set_cons_zero, List.set_cons_succ]
        refine wpAnyH_done (by kernel_rfl) ?_ _
        refine NoPanic.normal ?_
        go_wp2_with fail
        go_meet
        exact ⟨HS6, HG6, hl6⟩
    · go_simp
      (skip)
      go_wp2_with fail
      refine hK.out _ _ (by (try dsimp only); go_keep) (fun hHeld => ?_)
      clear hK K
      try simp only [Act.put, List.setIfInBounds_toArray, List.set_cons_zero, List.set_cons_succ]
      refine wpAnyH_ready (rs := [1]) (by kernel_rfl) (by simp) ?_
      refine AllReadyH.cons rfl (fun K hK => ?_) AllReadyH.nil
      go_simp
      (skip)
      go_wp2_with fail
      refine hK.out _ _ (by (try dsimp only); go_keep) (fun hHeld => ?_)
      clear hK K
      try simp only [Act.put, List.setIfInBounds_toArray, List.set_cons_zero, List.set_cons_succ]
      refine wpAnyH_ready (rs := [3]) (by kernel_rfl) (by simp) ?_
      refine AllReadyH.cons rfl (fun K hK => ?_) AllReadyH.nil
      rw [if_pos (by rfl)]
      (have hO : OwnG 3 1 (w.alloc (.cells #[.int .i64 0] 3)).heap.size (w.alloc (.cells #[.int .i64 0] 3)) (w.alloc (.cells #[.int .i64 0] 3)).heap.size (((w.alloc (.cells #[.int .i64 0] 3)).alloc (.cells #[] 3)).drew) (.slice (some ⟨w.heap.size + 1, 0, none⟩) 0 0) 0 [] := (by have hh := (own_start (w.alloc (.cells #[.int .i64 0] 3))).below (bl_drew (Below.refl _ _)); simpa using hh); refine wp_append_rd _ (.tmp 19) (.tmp 20) 42 (by rfl) _ 3 i0 Try.underlying42 hi0 hi1 hi2 hi3 _ 0 [] (by rfl) hO.own _ A1 k k1 L (by rfl) (HW.out.rd.below (bl_drew (bl_alloc (bl_alloc (Below.refl _ _) _) _))) (by omega) (by first | (simp; done) | (simp; omega)) ?_; intro v1 w3 hown3 hg3 hat3; have ho3 := hO.step (by simpa using hown3) hg3 hat3; have hb3 : Below w.heap.size w w3 := (bl_alloc (Below.refl w.heap.size w) (.cells #[.int .i64 0] 3)).trans (ho3.to_below (by simp) (by simp)); have hs3 := hb3.size; have pk3 := (hb3.cell (p := ⟨pb + 2, 0, none⟩) (by show pb + 2 < _; omega)).trans pe2; have HO3 := Lib.hid ho3; have HB3 := Lib.hid hb3; have hc3 : w3.cell? ⟨w.heap.size, 0, none⟩ = some (.int .i64 0) := ((ho3.to_below (Nat.le_refl _) (Nat.le_refl _)).cell (p := ⟨w.heap.size, 0, none⟩) (by simp)).trans (by simp); have hs4 : w.heap.size + 1 ≤ w3.heap.size := (by have := ho3.gr.size; simpa using this); clear hg3; clear hO hown3 hat3 ho3 hb3)
      refine hK.out _ _ (by (try dsimp only); go_keep) (fun hHeld => ?_)
      clear hK K
      try simp only [Act.put, List.setIfInBounds_toArray, List.set_cons_zero, List.set_cons_succ]
      refine wpAnyH_ready (rs := [5]) (by kernel_rfl) (by simp) ?_
      refine AllReadyH.cons rfl (fun K hK => ?_) AllReadyH.nil
      rw [if_pos (by rfl)]
      (refine wp_append_own1 _ (.tmp 21) (.tmp 22) 42 (by rfl) _ 3 i0 Try.underlying42 hi0 hi1 hi2 hi3 v1 k (L.map (Value.int .i64)) (by rfl) HO3.out.own ⟨w.heap.size, 0, none⟩ 0 (by rfl) (hc3) (by omega) (by simpa using hs4) ?_; intro v2 w5 hown5 hg5 hat5; have HN5 := HO3.out.step hown5 hg5 hat5; have hb5 : Below w.heap.size w w5 := (bl_alloc (Below.refl w.heap.size w) (.cells #[.int .i64 0] 3)).trans (HN5.to_below (by simp) (by simp)); have hown6 : w5.ownsRow w.heap.size 3 1 v2 (k + 1) ((L ++ [0]).map (Value.int .i64)) := own_base (base := w.heap.size + 1) (by simpa using hown5) (by omega); obtain ⟨A5, c5, rfl, hw5⟩ := own_wr hown6; have hc5 := own_cap hown6; have hs5 := hb5.size; have HW5 := Lib.hid hw5; have HB5 := Lib.hid hb5; have pk5 := (hb5.cell (p := ⟨pb + 2, 0, none⟩) (by show pb + 2 < _; omega)).trans pe2; clear hown5 hg5 hat5 HN5 hown6 hw5 hb5)
      refine hK.out _ _ (by (try dsimp only); go_keep) (fun hHeld => ?_)
      clear hK K
      try simp only [Act.put, List.setIfInBounds_toArray, List.set_cons_zero, List.set_cons_succ]
      refine wpAnyH_ready (rs := [6]) (by kernel_rfl) (by simp) ?_
      refine AllReadyH.cons rfl (fun K hK => ?_) AllReadyH.nil
      go_simp
      (go_at_call 68; refine (IH.out A5 (k + 1) c5 (L ++ [0]) u w5 (by rw [List.length_append, List.length_singleton]; omega) (S.out.below HB5.out) (wr_base HW5.out (by omega)) hc5 hbl).mono ?_; rintro e w6 ⟨rfl, hs6, hg6, hl6⟩; have pk6 := hs6.e2; have HS6 := Lib.hid hs6; have HG6 := Lib.hid (fr_trans (fr_bl HB5.out) hg6); clear hs6 hg6)
      go_wp2_with fail
      refine hK.out _ _ (by (try dsimp only); go_keep) (fun hHeld => ?_)
      clear hK K
      try simp only [Act.put, List.setIfInBounds_toArray, List.set_cons_zero, List.set_cons_succ]
      refine wpAnyH_done (by kernel_rfl) ?_ _
      refine NoPanic.normal ?_
      go_wp2_with fail
      go_meet
      exact ⟨HS6, HG6, hl6⟩
  case rest =>
    obtain ⟨HS, HG, hb⟩ := hcut
    obtain ⟨U, hU⟩ : ∃ U, sh (shT a h c a' h' c' xs) f (L ++ [0]) u = U := ⟨_, rfl⟩
    have HU := Lib.hid hU
    rw [hU] at HS hb
    clear hU
    have HWC := Lib.hid (wr_fr HW.out HG.out (by omega))
    have h5 := HS.out.lt
    have qe2 := HS.out.e2
    clear pe2 e0
    go_wp2_with fail
    refine wp_region_noPanic ?_
    refine wp_region_held_drew (S := (fun w' => w'.cell? ⟨pb + 2, 0, none⟩ = some (.func (.func 68) #[] #[.pointer (some ⟨pl, 0, none⟩), .pointer (some ⟨pb + 2, 0, none⟩), .pointer (some ⟨pm, 0, none⟩), .pointer (some ⟨pn, 0, none⟩), .pointer (some ⟨pb + 1, 0, none⟩), .pointer (some ⟨pb, 0, none⟩)]))) (by kernel_rfl) (by (try dsimp only); go_keep) (fun hHeld => ?_)
    refine take_of (some 25) (i := 0) (v := ?vq6_0) rfl rfl (by kernel_rfl) (by kernel_rfl) (by kernel_rfl) (fun _ _ _ h => h) (Or.inl ⟨by rfl, ?hyq6_0⟩) (by assumption) ?restq6_0
    case hyq6_0 => (intro w hSw; (try dsimp only at hSw); go_simp; try with_reducible rfl)
    try simp only [Act.put, List.setIfInBounds_toArray, List.set_cons_zero, List.set_cons_succ]
    refine take_of (some 27) (i := 2) (v := ?vq6_2) rfl rfl (by kernel_rfl) (by kernel_rfl) (by kernel_rfl) (fun _ _ _ h => h) (Or.inl ⟨by rfl, ?hyq6_2⟩) (by assumption) ?restq6_2
    case hyq6_2 => (intro w hSw; (try dsimp only at hSw); go_simp; try with_reducible rfl)
    try simp only [Act.put, List.setIfInBounds_toArray, List.set_cons_zero, List.set_cons_succ]
    refine wpAnyH_ready (rs := [1,4]) (by kernel_rfl) (by simp) ?_
    refine AllReadyH.cons rfl (fun K hK => ?_) (AllReadyH.cons rfl (fun K hK => ?_) (AllReadyH.nil))
    · go_simp
      (skip)
      go_wp2_with fail
      refine hK.out _ _ (by (try dsimp only); go_keep) (fun hHeld => ?_)
      clear hK K
      try simp only [Act.put, List.setIfInBounds_toArray, List.set_cons_zero, List.set_cons_succ]
      refine wpAnyH_ready (rs := [3,4]) (by kernel_rfl) (by simp) ?_
      refine AllReadyH.cons rfl (fun K hK => ?_) (AllReadyH.cons rfl (fun K hK => ?_) (AllReadyH.nil))
      · rw [if_pos (by rfl)]
        (have hO : OwnG 3 1 wc.heap.size wc wc.heap.size ((wc.alloc (.cells #[] 3)).drew) (.slice (some ⟨wc.heap.size, 0, none⟩) 0 0) 0 [] := (own_start wc).below (bl_drew (Below.refl _ _)); refine wp_append_rd _ (.tmp 26) (.tmp 27) 42 (by rfl) _ 3 i0 Try.underlying42 hi0 hi1 hi2 hi3 _ 0 [] (by rfl) hO.own _ A1 k k1 L (by rfl) (HWC.out.rd.below (bl_drew (bl_alloc (Below.refl _ _) _))) (by omega) (by first | (simp; done) | (simp; omega)) ?_; intro v1 w3 hown3 hg3 hat3; have ho3 := hO.step (by simpa using hown3) hg3 hat3; have hb3 : Below wc.heap.size wc w3 := ho3.to_below (Nat.le_refl _) (Nat.le_refl _); have hs3 := hb3.size; have qk3 := (hb3.cell (p := ⟨pb + 2, 0, none⟩) (by show pb + 2 < _; omega)).trans qe2; have HO3 := Lib.hid ho3; have HB3 := Lib.hid hb3; clear hg3; clear hO hown3 hat3 ho3 hb3)
        refine hK.out _ _ (by (try dsimp only); go_keep) (fun hHeld => ?_)
        clear hK K
        try simp only [Act.put, List.setIfInBounds_toArray, List.set_cons_zero, List.set_cons_succ]
        refine wpAnyH_ready (rs := [4]) (by kernel_rfl) (by simp) ?_
        refine AllReadyH.cons rfl (fun K hK => ?_) AllReadyH.nil
        go_simp
        (skip)
        go_wp2_with fail
        refine hK.out _ _ (by (try dsimp only); go_keep) (fun hHeld => ?_)
        clear hK K
        try simp only [Act.put, List.setIfInBounds_toArray, List.set_cons_zero, List.set_cons_succ]
        refine wpAnyH_ready (rs := [5]) (by kernel_rfl) (by simp) ?_
        refine AllReadyH.cons rfl (fun K hK => ?_) AllReadyH.nil
        rw [if_pos (by rfl)]
        (refine wp_append_own1 _ (.tmp 28) (.tmp 29) 42 (by rfl) _ 3 i0 Try.underlying42 hi0 hi1 hi2 hi3 v1 k (L.map (Value.int .i64)) (by rfl) (HO3.out.alloc _).own ⟨w3.heap.size, 0, none⟩ 1 (by rfl) (by simp) (by omega) (by simp; omega) ?_; intro v2 w5 hown5 hg5 hat5; have HN5 := HO3.out.push hown5 hg5 (by simpa using hat5); have hb5 : Below wc.heap.size wc w5 := HN5.to_below (Nat.le_refl _) (Nat.le_refl _); have hown6 : w5.ownsRow wc.heap.size 3 1 v2 (k + 1) ((L ++ [1]).map (Value.int .i64)) := (by simpa using hown5); obtain ⟨A5, c5, rfl, hw5⟩ := own_wr hown6; have hc5 := own_cap hown6; have hs5 := hb5.size; have HW5 := Lib.hid hw5; have HB5 := Lib.hid hb5; have qk5 := (hb5.cell (p := ⟨pb + 2, 0, none⟩) (by show pb + 2 < _; omega)).trans qe2; clear hown5 hg5 hat5 HN5 hown6 hw5 hb5)
        refine hK.out _ _ (by (try dsimp only); go_keep) (fun hHeld => ?_)
        clear hK K
        try simp only [Act.put, List.setIfInBounds_toArray, List.set_cons_zero, List.set_cons_succ]
        refine wpAnyH_ready (rs := [6]) (by kernel_rfl) (by simp) ?_
        refine AllReadyH.cons rfl (fun K hK => ?_) AllReadyH.nil
        go_simp
        (go_at_call 68; refine (IH.out A5 (k + 1) c5 (L ++ [1]) U w5 (by rw [List.length_append, List.length_singleton]; omega) (HS.out.below HB5.out) (wr_base HW5.out (by omega)) hc5 hb).mono ?_; rintro e w6 ⟨rfl, hs6, hg6, hl6⟩; have qk6 := hs6.e2; have HS6 := Lib.hid hs6; have HG6 := Lib.hid (fr_trans (fr_bl HB5.out) hg6); clear hs6 hg6)
        go_wp2_with fail
        refine hK.out _ _ (by (try dsimp only); go_keep) (fun hHeld => ?_)
        clear hK K
        try simp only [Act.put, List.setIfInBounds_toArray, List.set_cons_zero, List.set_cons_succ]
        refine wpAnyH_done (by kernel_rfl) ?_ _
        refine NoPanic.normal ?_
        go_wp2_with fail
        (first | go_end0 | refine bodyPost_ret (results_none rfl _ _ _) rfl ?_)
        rw [show sh (shT a h c a' h' c' xs) (f + 1) L u = sh (shT a h c a' h' c' xs) f (L ++ [1]) U by rw [sh, HU.out]]
        exact ⟨rfl, HS6.out, fr_trans HG.out HG6.out, hl6⟩
      · go_simp
        (skip)
        go_wp2_with fail
        refine hK.out _ _ (by (try dsimp only); go_keep) (fun hHeld => ?_)
        clear hK K
        try simp only [Act.put, List.setIfInBounds_toArray, List.set_cons_zero, List.set_cons_succ]
        refine wpAnyH_ready (rs := [3]) (by kernel_rfl) (by simp) ?_
        refine AllReadyH.cons rfl (fun K hK => ?_) AllReadyH.nil
        rw [if_pos (by rfl)]
        (have hO : OwnG 3 1 wc.heap.size wc wc.heap.size (((wc.alloc (.cells #[] 3)).alloc (.cells #[.int .i64 1] 3)).drew) (.slice (some ⟨wc.heap.size, 0, none⟩) 0 0) 0 [] := ((own_start wc).alloc _).below (bl_drew (Below.refl _ _)); refine wp_append_rd _ (.tmp 26) (.tmp 27) 42 (by rfl) _ 3 i0 Try.underlying42 hi0 hi1 hi2 hi3 _ 0 [] (by rfl) hO.own _ A1 k k1 L (by rfl) (HWC.out.rd.below (bl_drew (bl_alloc (bl_alloc (Below.refl _ _) _) _))) (by omega) (by first | (simp; done) | (simp; omega)) ?_; intro v1 w3 hown3 hg3 hat3; have ho3 := hO.step (by simpa using hown3) hg3 hat3; have hb3 : Below wc.heap.size wc w3 := ho3.to_below (Nat.le_refl _) (Nat.le_refl _); have hs3 := hb3.size; have qk3 := (hb3.cell (p := ⟨pb + 2, 0, none⟩) (by show pb + 2 < _; omega)).trans qe2; have HO3 := Lib.hid ho3; have HB3 := Lib.hid hb3; have hc3 : w3.cell? ⟨wc.heap.size + 1, 0, none⟩ = some (.int .i64 1) := (hg3.cell_far ⟨wc.heap.size + 1, 0, none⟩ (by simp) (by simp [Value.ownBlock])).trans (by simp); clear hg3; clear hO hown3 hat3 ho3 hb3)
        refine hK.out _ _ (by (try dsimp only); go_keep) (fun hHeld => ?_)
        clear hK K
        try simp only [Act.put, List.setIfInBounds_toArray, List.set_cons_zero, List.set_cons_succ]
        refine wpAnyH_ready (rs := [5]) (by kernel_rfl) (by simp) ?_
        refine AllReadyH.cons rfl (fun K hK => ?_) AllReadyH.nil
        rw [if_pos (by rfl)]
        (refine wp_append_own1 _ (.tmp 28) (.tmp 29) 42 (by rfl) _ 3 i0 Try.underlying42 hi0 hi1 hi2 hi3 v1 k (L.map (Value.int .i64)) (by rfl) HO3.out.own ⟨wc.heap.size + 1, 0, none⟩ 1 (by rfl) (hc3) (by omega) (by omega) ?_; intro v2 w5 hown5 hg5 hat5; have HN5 := HO3.out.step hown5 hg5 hat5; have hb5 : Below wc.heap.size wc w5 := HN5.to_below (Nat.le_refl _) (Nat.le_refl _); have hown6 : w5.ownsRow wc.heap.size 3 1 v2 (k + 1) ((L ++ [1]).map (Value.int .i64)) := (by simpa using hown5); obtain ⟨A5, c5, rfl, hw5⟩ := own_wr hown6; have hc5 := own_cap hown6; have hs5 := hb5.size; have HW5 := Lib.hid hw5; have HB5 := Lib.hid hb5; have qk5 := (hb5.cell (p := ⟨pb + 2, 0, none⟩) (by show pb + 2 < _; omega)).trans qe2; clear hown5 hg5 hat5 HN5 hown6 hw5 hb5)
        refine hK.out _ _ (by (try dsimp only); go_keep) (fun hHeld => ?_)
        clear hK K
        try simp only [Act.put, List.setIfInBounds_toArray, List.set_cons_zero, List.set_cons_succ]
        refine wpAnyH_ready (rs := [6]) (by kernel_rfl) (by simp) ?_
        refine AllReadyH.cons rfl (fun K hK => ?_) AllReadyH.nil
        go_simp
        (go_at_call 68; refine (IH.out A5 (k + 1) c5 (L ++ [1]) U w5 (by rw [List.length_append, List.length_singleton]; omega) (HS.out.below HB5.out) (wr_base HW5.out (by omega)) hc5 hb).mono ?_; rintro e w6 ⟨rfl, hs6, hg6, hl6⟩; have qk6 := hs6.e2; have HS6 := Lib.hid hs6; have HG6 := Lib.hid (fr_trans (fr_bl HB5.out) hg6); clear hs6 hg6)
        go_wp2_with fail
        refine hK.out _ _ (by (try dsimp only); go_keep) (fun hHeld => ?_)
        clear hK K
        try simp only [Act.put, List.setIfInBounds_toArray, List.set_cons_zero, List.set_cons_succ]
        refine wpAnyH_done (by kernel_rfl) ?_ _
        refine NoPanic.normal ?_
        go_wp2_with fail
        (first | go_end0 | refine bodyPost_ret (results_none rfl _ _ _) rfl ?_)
        rw [show sh (shT a h c a' h' c' xs) (f + 1) L u = sh (shT a h c a' h' c' xs) f (L ++ [1]) U by rw [sh, HU.out]]
        exact ⟨rfl, HS6.out, fr_trans HG.out HG6.out, hl6⟩
    · go_simp
      (skip)
      go_wp2_with fail
      refine hK.out _ _ (by (try dsimp only); go_keep) (fun hHeld => ?_)
      clear hK K
      try simp only [Act.put, List.setIfInBounds_toArray, List.set_cons_zero, List.set_cons_succ]
      refine wpAnyH_ready (rs := [1]) (by kernel_rfl) (by simp) ?_
      refine AllReadyH.cons rfl (fun K hK => ?_) AllReadyH.nil
      go_simp
      (skip)
      go_wp2_with fail
      refine hK.out _ _ (by (try dsimp only); go_keep) (fun hHeld => ?_)
      clear hK K
      try simp only [Act.put, List.setIfInBounds_toArray, List.set_cons_zero, List.set_cons_succ]
      refine wpAnyH_ready (rs := [3]) (by kernel_rfl) (by simp) ?_
      refine AllReadyH.cons rfl (fun K hK => ?_) AllReadyH.nil
      rw [if_pos (by rfl)]
      (have hO : OwnG 3 1 (wc.alloc (.cells #[.int .i64 1] 3)).heap.size (wc.alloc (.cells #[.int .i64 1] 3)) (wc.alloc (.cells #[.int .i64 1] 3)).heap.size (((wc.alloc (.cells #[.int .i64 1] 3)).alloc (.cells #[] 3)).drew) (.slice (some ⟨wc.heap.size + 1, 0, none⟩) 0 0) 0 [] := (by have hh := (own_start (wc.alloc (.cells #[.int .i64 1] 3))).below (bl_drew (Below.refl _ _)); simpa using hh); refine wp_append_rd _ (.tmp 26) (.tmp 27) 42 (by rfl) _ 3 i0 Try.underlying42 hi0 hi1 hi2 hi3 _ 0 [] (by rfl) hO.own _ A1 k k1 L (by rfl) (HWC.out.rd.below (bl_drew (bl_alloc (bl_alloc (Below.refl _ _) _) _))) (by omega) (by first | (simp; done) | (simp; omega)) ?_; intro v1 w3 hown3 hg3 hat3; have ho3 := hO.step (by simpa using hown3) hg3 hat3; have hb3 : Below wc.heap.size wc w3 := (bl_alloc (Below.refl wc.heap.size wc) (.cells #[.int .i64 1] 3)).trans (ho3.to_below (by simp) (by simp)); have hs3 := hb3.size; have qk3 := (hb3.cell (p := ⟨pb + 2, 0, none⟩) (by show pb + 2 < _; omega)).trans qe2; have HO3 := Lib.hid ho3; have HB3 := Lib.hid hb3; have hc3 : w3.cell? ⟨wc.heap.size, 0, none⟩ = some (.int .i64 1) := ((ho3.to_below (Nat.le_refl _) (Nat.le_refl _)).cell (p := ⟨wc.heap.size, 0, none⟩) (by simp)).trans (by simp); have hs4 : wc.heap.size + 1 ≤ w3.heap.size := (by have := ho3.gr.size; simpa using this); clear hg3; clear hO hown3 hat3 ho3 hb3)
      refine hK.out _ _ (by (try dsimp only); go_keep) (fun hHeld => ?_)
      clear hK K
      try simp only [Act.put, List.setIfInBounds_toArray, List.set_cons_zero, List.set_cons_succ]
      refine wpAnyH_ready (rs := [5]) (by kernel_rfl) (by simp) ?_
      refine AllReadyH.cons rfl (fun K hK => ?_) AllReadyH.nil
      rw [if_pos (by rfl)]
      (refine wp_append_own1 _ (.tmp 28) (.tmp 29) 42 (by rfl) _ 3 i0 Try.underlying42 hi0 hi1 hi2 hi3 v1 k (L.map (Value.int .i64)) (by rfl) HO3.out.own ⟨wc.heap.size, 0, none⟩ 1 (by rfl) (hc3) (by omega) (by simpa using hs4) ?_; intro v2 w5 hown5 hg5 hat5; have HN5 := HO3.out.step hown5 hg5 hat5; have hb5 : Below wc.heap.size wc w5 := (bl_alloc (Below.refl wc.heap.size wc) (.cells #[.int .i64 1] 3)).trans (HN5.to_below (by simp) (by simp)); have hown6 : w5.ownsRow wc.heap.size 3 1 v2 (k + 1) ((L ++ [1]).map (Value.int .i64)) := own_base (base := wc.heap.size + 1) (by simpa using hown5) (by omega); obtain ⟨A5, c5, rfl, hw5⟩ := own_wr hown6; have hc5 := own_cap hown6; have hs5 := hb5.size; have HW5 := Lib.hid hw5; have HB5 := Lib.hid hb5; have qk5 := (hb5.cell (p := ⟨pb + 2, 0, none⟩) (by show pb + 2 < _; omega)).trans qe2; clear hown5 hg5 hat5 HN5 hown6 hw5 hb5)
      refine hK.out _ _ (by (try dsimp only); go_keep) (fun hHeld => ?_)
      clear hK K
      try simp only [Act.put, List.setIfInBounds_toArray, List.set_cons_zero, List.set_cons_succ]
      refine wpAnyH_ready (rs := [6]) (by kernel_rfl) (by simp) ?_
      refine AllReadyH.cons rfl (fun K hK => ?_) AllReadyH.nil
      go_simp
      (go_at_call 68; refine (IH.out A5 (k + 1) c5 (L ++ [1]) U w5 (by rw [List.length_append, List.length_singleton]; omega) (HS.out.below HB5.out) (wr_base HW5.out (by omega)) hc5 hb).mono ?_; rintro e w6 ⟨rfl, hs6, hg6, hl6⟩; have qk6 := hs6.e2; have HS6 := Lib.hid hs6; have HG6 := Lib.hid (fr_trans (fr_bl HB5.out) hg6); clear hs6 hg6)
      go_wp2_with fail
      refine hK.out _ _ (by (try dsimp only); go_keep) (fun hHeld => ?_)
      clear hK K
      try simp only [Act.put, List.setIfInBounds_toArray, List.set_cons_zero, List.set_cons_succ]
      refine wpAnyH_done (by kernel_rfl) ?_ _
      refine NoPanic.normal ?_
      go_wp2_with fail
      (first | go_end0 | refine bodyPost_ret (results_none rfl _ _ _) rfl ?_)
      rw [show sh (shT a h c a' h' c' xs) (f + 1) L u = sh (shT a h c a' h' c' xs) f (L ++ [1]) U by rw [sh, HU.out]]
      exact ⟨rfl, HS6.out, fr_trans HG.out HG6.out, hl6⟩
theorem sh_any (pb pm pn pl : Nat) (a h c a' h' c' : Int) (A : Option Addr) (n cp : Nat) (xs : List Cst) (hn : n ≤ 8) (hxl : xs.length = n) (hm : machB a h c = true) (hm' : machB a' h' c' = true) (hx : castsB xs = true) : ∀ f, ShAll pb pm pn pl a h c a' h' c' A n cp xs f
  | 0 => sh_zero pb pm pn pl a h c a' h' c' A n cp xs hn hxl hm hm' hx
  | f + 1 => sh_succ pb pm pn pl a h c a' h' c' A n cp xs hn f (sh_any pb pm pn pl a h c a' h' c' A n cp xs hn hxl hm hm' hx f)
end Go.Proofs.Ytabmhmbmdegoaaa
