/-
  MostCastings: csMost, the reference model's recursion.
-/
import Derived.Test.YtabmhmbmdegoaaaOrd2
namespace Go.Proofs.Ytabmhmbmdegoaaa
open Go.RowKit
set_option linter.unusedVariables false
attribute [local go_sem ↓] Go.wp_at_zero Go.wp_at_succ

theorem l1OwnN_any (B : Option Addr) (m d : Nat) (ls : List Int) (w : World) (hr : Rd cI 1 w w.heap.size B m ls) (hm : m ≤ 100000) :
    Calls Try.prog 75 #[.slice B m d] w fun e w' => ∃ v, e = .returned v ∧ OwnG 3 1 w.heap.size w w.heap.size w' v m (ls.map (Value.int .i64)) := by
  obtain ⟨i0, hi0, hi1, hi2, hi3⟩ := info_parts infoI
  have hrb := hr.below (bl_alloc (Below.refl w.heap.size w) (.cells #[] 3))
  clear hr
  go_enter Try.func75, Try.ntmps75
  go_wp2_with (at_builtin; refine wpList_append_rd _ rfl _ _ 42 rfl w.heap.size 3 i0 Try.underlying42 hi0 hi1 hi2 hi3 _ _ _ rfl (own_start w).own w.heap.size B m d ls rfl hrb ?r2 ?r3 ?_)
  case r2 => omega
  case r3 => first | (simp; done) | (simp; omega)
  intro v1 w3 hown3 hg3 hat3
  have HO3 := Lib.hid ((own_start w).step hown3 hg3 (by simpa using hat3))
  clear hown3 hg3 hat3
  go_wp2
  go_ret
  exact ⟨v1, rfl, HO3.out⟩
/-- returns a slice of int that reads R, in memory from b0 on -/
def ResM (b0 : Nat) (w : World) (R : List Int) (e : Ending) (w' : World) : Prop := ∃ A c, e = .returned (.slice A R.length c) ∧ Wr w' b0 A R.length R ∧ Below w.heap.size w w' ∧ R.length ≤ 8
theorem ms_done {n : Nat} {t : List Int → Int} {mins : Int} {f : Nat} {L best : List Int} {j : Nat} (hj : j ≤ n) (h : (msK n t mins f L best j).length = n) : ms n t mins f L best = msK n t mins f L best j := by
  rw [← msK_end, ← msK_full h (n - j)]
  congr 1
  omega
set_option maxHeartbeats 4000000 in
theorem csMost_step (a h c : Int) (A : Option Addr) (n cp : Nat) (xs : List Cst) (mins : Int) (b0 : Nat) (hn : n ≤ 8) (hxl : xs.length = n) (hm : machB a h c = true) (hx : castsB xs = true) (f : Nat)
    (ih : 0 < f → ∀ (A1 : Option Addr) (k k1 : Nat) (L : List Int) (A2 : Option Addr) (kb kc : Nat) (best : List Int) (w : World), L.length + (f - 1) = n → Rd cCst 2 w w.heap.size A n xs → Wr w b0 A1 k L → k ≤ k1 → Wr w b0 A2 kb best → diffB L (xs.length : Int) = true → best.length ≤ 8 → b0 ≤ w.heap.size →
      Calls Try.prog 64 #[.agg #[.int .i64 a, .int .i64 h, .int .i64 c], .slice A n cp, .slice A1 k k1, .int .i64 mins, .slice A2 kb kc] w (ResM b0 w (ms n (tmV a h c xs) mins (f - 1) L best))) :
    ∀ (A1 : Option Addr) (k k1 : Nat) (L : List Int) (A2 : Option Addr) (kb kc : Nat) (best : List Int) (w : World), L.length + f = n → Rd cCst 2 w w.heap.size A n xs → Wr w b0 A1 k L → k ≤ k1 → Wr w b0 A2 kb best → diffB L (xs.length : Int) = true → best.length ≤ 8 → b0 ≤ w.heap.size →
      Calls Try.prog 64 #[.agg #[.int .i64 a, .int .i64 h, .int .i64 c], .slice A n cp, .slice A1 k k1, .int .i64 mins, .slice A2 kb kc] w (ResM b0 w (ms n (tmV a h c xs) mins f L best)) := by
  intro A1 k k1 L A2 kb kc best w hLf hr hw hk1 hwb hd hbl hb0
  have hl := hw.1
  have hlb := hwb.1
  have HR := Lib.hid hr
  have HW := Lib.hid hw
  have HWB := Lib.hid hwb
  have HD := Lib.hid hd
  have IH := Lib.hid ih
  obtain ⟨i0, hi0, hi1, hi2, hi3⟩ := info_parts infoI
  have HEN := Lib.hid (msK_end n (tmV a h c xs) mins f L best)
  have HZ := Lib.hid (msK_zero n (tmV a h c xs) mins f L best)
  clear hr hw hwb hd ih
  by_cases hlt : kb < k
  · have HF := Lib.hid (show msFirst L best = L by unfold msFirst; rw [if_pos (by omega)])
    go_enter Try.func64, Try.ntmps64
    go_wp2
    go_loopw [4, 21] (fun b i wr => ∃ (j : Nat) (A4 : Option Addr) (c4 : Nat), j ≤ n ∧ i = .int .i64 j ∧ b = .slice A4 (msK n (tmV a h c xs) mins f L best j).length c4 ∧ Wr wr b0 A4 (msK n (tmV a h c xs) mins f L best j).length (msK n (tmV a h c xs) mins f L best j) ∧ Below (w.heap.size + 1) (w.alloc (.cells #[.int .i64 a, .int .i64 h, .int .i64 c] 25)) wr ∧ (msK n (tmV a h c xs) mins f L best j).length ≤ 8) (fun _ i _ => n - (intOf i).toNat)
    case atStart =>
      refine ⟨0, A1, k1, Nat.zero_le _, rfl, ?_, ?_, Below.refl _ _, ?_⟩
      · rw [HZ.out, HF.out, hl]
      · rw [HZ.out, HF.out, hl]; exact (HW.out.below (bl_alloc (Below.refl _ _) _))
      · rw [HZ.out, HF.out]; omega
    case round =>
      obtain ⟨j, A4, c4, hj, rfl, rfl, hwj, hbj, hlj⟩ := hrel
      obtain ⟨R, hR⟩ : ∃ R, msK n (tmV a h c xs) mins f L best j = R := ⟨_, rfl⟩
      have HRJ := Lib.hid hR
      rw [hR] at hwj hlj
      rw [hR]
      clear hR
      have WJ := Lib.hid hwj
      have hbw : Below w.heap.size w wr := (bl_alloc (Below.refl w.heap.size w) (.cells #[.int .i64 a, .int .i64 h, .int .i64 c] 25)).trans (hbj.mono (by omega))
      have hsz : w.heap.size + 1 ≤ wr.heap.size := by have := hbj.size; simpa using this
      have BJ := Lib.hid hbj
      have BW := Lib.hid hbw
      have d0 : wr.cell? ⟨w.heap.size, 0, none⟩ = some (.int .i64 a) := (hbj.cell (p := ⟨w.heap.size, 0, none⟩) (by show w.heap.size < _; omega)).trans (by simp)
      have d1 : wr.cell? ⟨w.heap.size, 1, none⟩ = some (.int .i64 h) := (hbj.cell (p := ⟨w.heap.size, 1, none⟩) (by show w.heap.size < _; omega)).trans (by simp)
      have d2 : wr.cell? ⟨w.heap.size, 2, none⟩ = some (.int .i64 c) := (hbj.cell (p := ⟨w.heap.size, 2, none⟩) (by show w.heap.size < _; omega)).trans (by simp)
      clear hwj hbj hbw
      by_cases hlt : j < n
      · by_cases hfull : R.length = n
        · have hbe : ((R.length : Int) == (n : Int)) = true := by simp; omega
          have HM := Lib.hid (ms_done hj (by rw [HRJ.out]; exact hfull))
          go_wp2
          go_ret
          rw [HM.out, HRJ.out]
          exact ⟨A4, c4, rfl, WJ.out, BW.out, hlj⟩
        · have hbe : ((R.length : Int) == (n : Int)) = false := by simp; omega
          obtain ⟨wo, rfl⟩ : ∃ wo : World, wo = wr := ⟨_, rfl⟩
          have hrx := (HR.out.below BW.out).more BW.out.size
          have HRX := Lib.hid hrx
          have hwo := HW.out.below BW.out
          have HWO := Lib.hid hwo
          have HO := Lib.hid (l1OwnN_any A1 k k1 L wo hwo.rd (by omega))
          clear hrx hwo
          go_wp2_with fail
          refine HO.out.mono ?_
          rintro e w3 ⟨v1, rfl, ho3⟩
          have HO3 := Lib.hid ho3
          clear ho3
          go_wp2_with (at_builtin; refine wpList_append_own_at _ rfl _ _ 42 rfl wo.heap.size 3 i0 (.int .i64 0) 1 8 Try.underlying42 hi0 hi1 hi2 hi3 rfl (by decide) _ _ _ rfl ((HO3.out.alloc _).own) ⟨w3.heap.size, 0, none⟩ 1 1 [.int .i64 ((j : Int))] rfl rfl ?Lzc1 ?Lzc2 ?Lzc3 ?Lzc4 ?Lzc5 ?_)
          case Lzc1 => exact cell_one_new _ _ _
          case Lzc2 => first | rfl | (intro u hu; simp at hu; subst hu; rfl)
          case Lzc3 => unfold maxLen; omega
          case Lzc4 => omega
          case Lzc5 => have := HO3.out.gr.size; simp; omega
          intro v2 w5 hown5 hg5 _ hat5
          have HN5 := HO3.out.push hown5 hg5 hat5
          have hb5 : Below wo.heap.size wo w5 := HN5.to_below (Nat.le_refl _) (Nat.le_refl _)
          have hown6 : w5.ownsRow wo.heap.size 3 1 v2 (k + 1) ((L ++ [(j : Int)]).map (Value.int .i64)) := by simpa using hown5
          obtain ⟨A5, c5, rfl, hw5⟩ := own_wr hown6
          have hc5 := own_cap hown6
          have HW5 := Lib.hid hw5
          have HB5 := Lib.hid hb5
          have hs5 := hb5.size
          have x0 := (hb5.cell (p := ⟨w.heap.size, 0, none⟩) (by show w.heap.size < _; omega)).trans d0
          have x1 := (hb5.cell (p := ⟨w.heap.size, 1, none⟩) (by show w.heap.size < _; omega)).trans d1
          have x2 := (hb5.cell (p := ⟨w.heap.size, 2, none⟩) (by show w.heap.size < _; omega)).trans d2
          have hrd := (HWO.out.below hb5).rd
          have BJ5 := Lib.hid (BJ.out.trans (hb5.mono (by omega)))
          clear hown5 hg5 hat5 HN5 hown6 hw5 hb5 d0 d1 d2
          rcases hh : hasI L (j : Int) with _ | _
          · have HH := Lib.hid hh
            have hf0 : 0 < f := by
              rcases Nat.eq_zero_or_pos f with h0 | h0
              · have := has_full HD.out (by omega) (i := (j : Int)) (by omega) (by omega)
                rw [hh] at this; cases this
              · exact h0
            have HDN := Lib.hid (diff_snoc HD.out (i := (j : Int)) (by omega) (by omega) hh)
            have HLA := Lib.hid (csLast_any a h c A A5 n cp (k + 1) c5 xs (L ++ [(j : Int)]) w5 ⟨(HRX.out.below HB5.out).more HB5.out.size, HW5.out.rd, by omega, by omega, hc5⟩ (ordB_of hm hx HDN.out))
            obtain ⟨t, ht⟩ : ∃ t, (csTo h c xs (L ++ [(j : Int)]) a (L ++ [(j : Int)]).length).t = t := ⟨_, rfl⟩
            rw [ht] at HLA
            have htm : tmV a h c xs (L ++ [(j : Int)]) = t := ht
            by_cases hle : t ≤ mins
            · have HGO := Lib.hid (msK_go hf0 (by rw [HRJ.out]; exact hfull) hh (by rw [htm]; exact hle))
              clear hh ht htm
              go_wp2_with (first | (go_at_call 73; refine (l1Has_any _ _ _ _ L (j : Int) _ hrd (by unfold maxLen; omega)).mono ?_; rw [HH.out]; rintro e w' ⟨rfl, rfl⟩) | (go_at_call 60; refine HLA.out.mono ?_; rintro e w6 ⟨rfl, hb⟩; obtain ⟨hc7, hf7, hz7⟩ := bl_at hb (k := w.heap.size) (by omega); have HB6 := Lib.hid hb))
              refine (IH.out hf0 A5 (k + 1) c5 (L ++ [(j : Int)]) A4 R.length c4 R w6 (by rw [List.length_append, List.length_singleton]; omega) ((((HRX.out.below HB5.out).more HB5.out.size).below HB6.out).more HB6.out.size) (wr_base (HW5.out.below HB6.out) (by omega)) hc5 ((WJ.out.below HB5.out).below HB6.out) HDN.out hlj (by have := HB6.out.size; omega)).mono ?_
              rintro e w7 ⟨A7, c7, rfl, hw7, hb7, hl7⟩
              have HW7 := Lib.hid hw7
              have HB7 := Lib.hid hb7
              clear hw7 hb7
              go_wp2
              go_roundw
              case rel => exact ⟨j + 1, A7, c7, by omega, by go_num, by rw [HGO.out, HRJ.out], by rw [HGO.out, HRJ.out]; exact HW7.out, (BJ5.out.trans (HB6.out.mono (by omega))).trans (HB7.out.mono (by have := HB6.out.size; omega)), by rw [HGO.out, HRJ.out]; exact hl7⟩
              case measure => simp [intOf]; omega
            · have HSK := Lib.hid (msK_skip (n := n) (t := tmV a h c xs) (mins := mins) (f := f) (L := L) (best := best) (k := j) (.inr (by rw [htm]; exact hle)))
              clear hh ht htm
              go_wp2_with (first | (go_at_call 73; refine (l1Has_any _ _ _ _ L (j : Int) _ hrd (by unfold maxLen; omega)).mono ?_; rw [HH.out]; rintro e w' ⟨rfl, rfl⟩) | (go_at_call 60; refine HLA.out.mono ?_; rintro e w6 ⟨rfl, hb⟩; have HB6 := Lib.hid hb))
              go_roundw
              case rel => exact ⟨j + 1, A4, c4, by omega, by go_num, by rw [HSK.out, HRJ.out], by rw [HSK.out, HRJ.out]; exact (WJ.out.below HB5.out).below HB6.out, BJ5.out.trans (HB6.out.mono (by omega)), by rw [HSK.out, HRJ.out]; exact hlj⟩
              case measure => simp [intOf]; omega
          · have HH := Lib.hid hh
            have HSK := Lib.hid (msK_skip (n := n) (t := tmV a h c xs) (mins := mins) (f := f) (L := L) (best := best) (k := j) (.inl hh))
            clear hh
            go_wp2_with (go_at_call 73; refine (l1Has_any _ _ _ _ L (j : Int) _ hrd (by unfold maxLen; omega)).mono ?_; rw [HH.out]; rintro e w' ⟨rfl, rfl⟩)
            go_roundw
            case rel => exact ⟨j + 1, A4, c4, by omega, by go_num, by rw [HSK.out, HRJ.out], by rw [HSK.out, HRJ.out]; exact WJ.out.below HB5.out, BJ5.out, by rw [HSK.out, HRJ.out]; exact hlj⟩
            case measure => simp [intOf]; omega
      · obtain rfl : j = n := by omega
        go_wp2
        go_ret
        rw [← HEN.out, HRJ.out]
        exact ⟨A4, c4, rfl, WJ.out, BW.out, hlj⟩
  · have HF := Lib.hid (show msFirst L best = best by unfold msFirst; rw [if_neg (by omega)])
    go_enter Try.func64, Try.ntmps64
    go_wp2
    go_loopw [4, 21] (fun b i wr => ∃ (j : Nat) (A4 : Option Addr) (c4 : Nat), j ≤ n ∧ i = .int .i64 j ∧ b = .slice A4 (msK n (tmV a h c xs) mins f L best j).length c4 ∧ Wr wr b0 A4 (msK n (tmV a h c xs) mins f L best j).length (msK n (tmV a h c xs) mins f L best j) ∧ Below (w.heap.size + 1) (w.alloc (.cells #[.int .i64 a, .int .i64 h, .int .i64 c] 25)) wr ∧ (msK n (tmV a h c xs) mins f L best j).length ≤ 8) (fun _ i _ => n - (intOf i).toNat)
    case atStart =>
      refine ⟨0, A2, kc, Nat.zero_le _, rfl, ?_, ?_, Below.refl _ _, ?_⟩
      · rw [HZ.out, HF.out, hlb]
      · rw [HZ.out, HF.out, hlb]; exact (HWB.out.below (bl_alloc (Below.refl _ _) _))
      · rw [HZ.out, HF.out]; omega
    case round =>
      obtain ⟨j, A4, c4, hj, rfl, rfl, hwj, hbj, hlj⟩ := hrel
      obtain ⟨R, hR⟩ : ∃ R, msK n (tmV a h c xs) mins f L best j = R := ⟨_, rfl⟩
      have HRJ := Lib.hid hR
      rw [hR] at hwj hlj
      rw [hR]
      clear hR
      have WJ := Lib.hid hwj
      have hbw : Below w.heap.size w wr := (bl_alloc (Below.refl w.heap.size w) (.cells #[.int .i64 a, .int .i64 h, .int .i64 c] 25)).trans (hbj.mono (by omega))
      have hsz : w.heap.size + 1 ≤ wr.heap.size := by have := hbj.size; simpa using this
      have BJ := Lib.hid hbj
      have BW := Lib.hid hbw
      have d0 : wr.cell? ⟨w.heap.size, 0, none⟩ = some (.int .i64 a) := (hbj.cell (p := ⟨w.heap.size, 0, none⟩) (by show w.heap.size < _; omega)).trans (by simp)
      have d1 : wr.cell? ⟨w.heap.size, 1, none⟩ = some (.int .i64 h) := (hbj.cell (p := ⟨w.heap.size, 1, none⟩) (by show w.heap.size < _; omega)).trans (by simp)
      have d2 : wr.cell? ⟨w.heap.size, 2, none⟩ = some (.int .i64 c) := (hbj.cell (p := ⟨w.heap.size, 2, none⟩) (by show w.heap.size < _; omega)).trans (by simp)
      clear hwj hbj hbw
      by_cases hlt : j < n
      · by_cases hfull : R.length = n
        · have hbe : ((R.length : Int) == (n : Int)) = true := by simp; omega
          have HM := Lib.hid (ms_done hj (by rw [HRJ.out]; exact hfull))
          go_wp2
          go_ret
          rw [HM.out, HRJ.out]
          exact ⟨A4, c4, rfl, WJ.out, BW.out, hlj⟩
        · have hbe : ((R.length : Int) == (n : Int)) = false := by simp; omega
          obtain ⟨wo, rfl⟩ : ∃ wo : World, wo = wr := ⟨_, rfl⟩
          have hrx := (HR.out.below BW.out).more BW.out.size
          have HRX := Lib.hid hrx
          have hwo := HW.out.below BW.out
          have HWO := Lib.hid hwo
          have HO := Lib.hid (l1OwnN_any A1 k k1 L wo hwo.rd (by omega))
          clear hrx hwo
          go_wp2_with fail
          refine HO.out.mono ?_
          rintro e w3 ⟨v1, rfl, ho3⟩
          have HO3 := Lib.hid ho3
          clear ho3
          go_wp2_with (at_builtin; refine wpList_append_own_at _ rfl _ _ 42 rfl wo.heap.size 3 i0 (.int .i64 0) 1 8 Try.underlying42 hi0 hi1 hi2 hi3 rfl (by decide) _ _ _ rfl ((HO3.out.alloc _).own) ⟨w3.heap.size, 0, none⟩ 1 1 [.int .i64 ((j : Int))] rfl rfl ?bestzc1 ?bestzc2 ?bestzc3 ?bestzc4 ?bestzc5 ?_)
          case bestzc1 => exact cell_one_new _ _ _
          case bestzc2 => first | rfl | (intro u hu; simp at hu; subst hu; rfl)
          case bestzc3 => unfold maxLen; omega
          case bestzc4 => omega
          case bestzc5 => have := HO3.out.gr.size; simp; omega
          intro v2 w5 hown5 hg5 _ hat5
          have HN5 := HO3.out.push hown5 hg5 hat5
          have hb5 : Below wo.heap.size wo w5 := HN5.to_below (Nat.le_refl _) (Nat.le_refl _)
          have hown6 : w5.ownsRow wo.heap.size 3 1 v2 (k + 1) ((L ++ [(j : Int)]).map (Value.int .i64)) := by simpa using hown5
          obtain ⟨A5, c5, rfl, hw5⟩ := own_wr hown6
          have hc5 := own_cap hown6
          have HW5 := Lib.hid hw5
          have HB5 := Lib.hid hb5
          have hs5 := hb5.size
          have x0 := (hb5.cell (p := ⟨w.heap.size, 0, none⟩) (by show w.heap.size < _; omega)).trans d0
          have x1 := (hb5.cell (p := ⟨w.heap.size, 1, none⟩) (by show w.heap.size < _; omega)).trans d1
          have x2 := (hb5.cell (p := ⟨w.heap.size, 2, none⟩) (by show w.heap.size < _; omega)).trans d2
          have hrd := (HWO.out.below hb5).rd
          have BJ5 := Lib.hid (BJ.out.trans (hb5.mono (by omega)))
          clear hown5 hg5 hat5 HN5 hown6 hw5 hb5 d0 d1 d2
          rcases hh : hasI L (j : Int) with _ | _
          · have HH := Lib.hid hh
            have hf0 : 0 < f := by
              rcases Nat.eq_zero_or_pos f with h0 | h0
              · have := has_full HD.out (by omega) (i := (j : Int)) (by omega) (by omega)
                rw [hh] at this; cases this
              · exact h0
            have HDN := Lib.hid (diff_snoc HD.out (i := (j : Int)) (by omega) (by omega) hh)
            have HLA := Lib.hid (csLast_any a h c A A5 n cp (k + 1) c5 xs (L ++ [(j : Int)]) w5 ⟨(HRX.out.below HB5.out).more HB5.out.size, HW5.out.rd, by omega, by omega, hc5⟩ (ordB_of hm hx HDN.out))
            obtain ⟨t, ht⟩ : ∃ t, (csTo h c xs (L ++ [(j : Int)]) a (L ++ [(j : Int)]).length).t = t := ⟨_, rfl⟩
            rw [ht] at HLA
            have htm : tmV a h c xs (L ++ [(j : Int)]) = t := ht
            by_cases hle : t ≤ mins
            · have HGO := Lib.hid (msK_go hf0 (by rw [HRJ.out]; exact hfull) hh (by rw [htm]; exact hle))
              clear hh ht htm
              go_wp2_with (first | (go_at_call 73; refine (l1Has_any _ _ _ _ L (j : Int) _ hrd (by unfold maxLen; omega)).mono ?_; rw [HH.out]; rintro e w' ⟨rfl, rfl⟩) | (go_at_call 60; refine HLA.out.mono ?_; rintro e w6 ⟨rfl, hb⟩; obtain ⟨hc7, hf7, hz7⟩ := bl_at hb (k := w.heap.size) (by omega); have HB6 := Lib.hid hb))
              refine (IH.out hf0 A5 (k + 1) c5 (L ++ [(j : Int)]) A4 R.length c4 R w6 (by rw [List.length_append, List.length_singleton]; omega) ((((HRX.out.below HB5.out).more HB5.out.size).below HB6.out).more HB6.out.size) (wr_base (HW5.out.below HB6.out) (by omega)) hc5 ((WJ.out.below HB5.out).below HB6.out) HDN.out hlj (by have := HB6.out.size; omega)).mono ?_
              rintro e w7 ⟨A7, c7, rfl, hw7, hb7, hl7⟩
              have HW7 := Lib.hid hw7
              have HB7 := Lib.hid hb7
              clear hw7 hb7
              go_wp2
              go_roundw
              case rel => exact ⟨j + 1, A7, c7, by omega, by go_num, by rw [HGO.out, HRJ.out], by rw [HGO.out, HRJ.out]; exact HW7.out, (BJ5.out.trans (HB6.out.mono (by omega))).trans (HB7.out.mono (by have := HB6.out.size; omega)), by rw [HGO.out, HRJ.out]; exact hl7⟩
              case measure => simp [intOf]; omega
            · have HSK := Lib.hid (msK_skip (n := n) (t := tmV a h c xs) (mins := mins) (f := f) (L := L) (best := best) (k := j) (.inr (by rw [htm]; exact hle)))
              clear hh ht htm
              go_wp2_with (first | (go_at_call 73; refine (l1Has_any _ _ _ _ L (j : Int) _ hrd (by unfold maxLen; omega)).mono ?_; rw [HH.out]; rintro e w' ⟨rfl, rfl⟩) | (go_at_call 60; refine HLA.out.mono ?_; rintro e w6 ⟨rfl, hb⟩; have HB6 := Lib.hid hb))
              go_roundw
              case rel => exact ⟨j + 1, A4, c4, by omega, by go_num, by rw [HSK.out, HRJ.out], by rw [HSK.out, HRJ.out]; exact (WJ.out.below HB5.out).below HB6.out, BJ5.out.trans (HB6.out.mono (by omega)), by rw [HSK.out, HRJ.out]; exact hlj⟩
              case measure => simp [intOf]; omega
          · have HH := Lib.hid hh
            have HSK := Lib.hid (msK_skip (n := n) (t := tmV a h c xs) (mins := mins) (f := f) (L := L) (best := best) (k := j) (.inl hh))
            clear hh
            go_wp2_with (go_at_call 73; refine (l1Has_any _ _ _ _ L (j : Int) _ hrd (by unfold maxLen; omega)).mono ?_; rw [HH.out]; rintro e w' ⟨rfl, rfl⟩)
            go_roundw
            case rel => exact ⟨j + 1, A4, c4, by omega, by go_num, by rw [HSK.out, HRJ.out], by rw [HSK.out, HRJ.out]; exact WJ.out.below HB5.out, BJ5.out, by rw [HSK.out, HRJ.out]; exact hlj⟩
            case measure => simp [intOf]; omega
      · obtain rfl : j = n := by omega
        go_wp2
        go_ret
        rw [← HEN.out, HRJ.out]
        exact ⟨A4, c4, rfl, WJ.out, BW.out, hlj⟩
theorem csMost_any (a h c : Int) (A : Option Addr) (n cp : Nat) (xs : List Cst) (mins : Int) (b0 : Nat) (hn : n ≤ 8) (hxl : xs.length = n) (hm : machB a h c = true) (hx : castsB xs = true) :
    ∀ (f : Nat) (A1 : Option Addr) (k k1 : Nat) (L : List Int) (A2 : Option Addr) (kb kc : Nat) (best : List Int) (w : World), L.length + f = n → Rd cCst 2 w w.heap.size A n xs → Wr w b0 A1 k L → k ≤ k1 → Wr w b0 A2 kb best → diffB L (xs.length : Int) = true → best.length ≤ 8 → b0 ≤ w.heap.size →
      Calls Try.prog 64 #[.agg #[.int .i64 a, .int .i64 h, .int .i64 c], .slice A n cp, .slice A1 k k1, .int .i64 mins, .slice A2 kb kc] w (ResM b0 w (ms n (tmV a h c xs) mins f L best)) := by
  intro f
  induction f with
  | zero => exact csMost_step a h c A n cp xs mins b0 hn hxl hm hx 0 (fun h => absurd h (by omega))
  | succ g ih => exact csMost_step a h c A n cp xs mins b0 hn hxl hm hx (g + 1) (fun _ => ih)
end Go.Proofs.Ytabmhmbmdegoaaa
