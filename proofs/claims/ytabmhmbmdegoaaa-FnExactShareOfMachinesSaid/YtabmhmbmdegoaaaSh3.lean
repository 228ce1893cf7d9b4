/-
  ShareOfMachines: the reference model's contract.
-/
import Derived.Test.YtabmhmbmdegoaaaSh2
import Derived.Test.YtabmhmbmdegoaaaCs22
namespace Go.Proofs.Ytabmhmbmdegoaaa
open Go.RowKit
set_option linter.unusedVariables false
attribute [local go_sem ↓] Go.wp_at_zero Go.wp_at_succ

def smB (a h c a' h' c' : Int) (xs : List Cst) : Bool := machB a h c && (machB a' h' c' && castsB xs)
def smS (a h c a' h' c' : Int) (xs : List Cst) : List Int × Int := if smB a h c a' h' c' xs = true then shC (shT a h c a' h' c' xs) xs.length ([], -1) (2 ^ xs.length) else ([], 0)
theorem smS_no {a h c a' h' c' : Int} {xs : List Cst} (hb : smB a h c a' h' c' xs = false) : smS a h c a' h' c' xs = ([], 0) := by simp [smS, hb]
theorem smS_yes {a h c a' h' c' : Int} {xs : List Cst} (hb : smB a h c a' h' c' xs = true) : smS a h c a' h' c' xs = shC (shT a h c a' h' c' xs) xs.length ([], -1) (2 ^ xs.length) := by simp [smS, hb]
theorem sm_parts (a h c a' h' c' : Int) (xs : List Cst) : (machB a h c = false ∧ smB a h c a' h' c' xs = false) ∨ (machB a h c = true ∧ machB a' h' c' = false ∧ smB a h c a' h' c' xs = false) ∨ (machB a h c = true ∧ machB a' h' c' = true ∧ castsB xs = false ∧ smB a h c a' h' c' xs = false) ∨ (machB a h c = true ∧ machB a' h' c' = true ∧ castsB xs = true ∧ smB a h c a' h' c' xs = true) := by
  unfold smB
  rcases machB a h c with _ | _ <;> rcases machB a' h' c' with _ | _ <;> rcases castsB xs with _ | _ <;> simp
theorem shC_len (t : List Int → Int) (n : Nat) : ∀ k, (shC t n ([], -1) k).1.length ≤ n
  | 0 => by rw [shC_zero]; simp
  | k + 1 => by
    rw [shC_succ]
    unfold shStep; split
    · show (bitsL n k).length ≤ n; rw [bitsL_len]; exact Nat.le_refl _
    · exact shC_len t n k
theorem bitsL_take {n k j : Nat} (hj : j < n) : (bitsL n k).take (j + 1) = (bitsL n k).take j ++ [((k / 2 ^ (n - 1 - j) % 2 : Nat) : Int)] := by
  refine take_snoc ?_
  unfold bitsL
  rw [List.getElem?_map, List.getElem?_range hj]
  rfl
theorem and_one_i64 (E : Int) (h0 : 0 ≤ E) (h1 : E ≤ 1000) : bits BinOp.and IntKind.i64 E 1 = E % 2 := by
  obtain ⟨m, rfl⟩ := Int.eq_ofNat_of_zero_le h0
  have h : ∀ m : Nat, m ≤ 1000 → bits BinOp.and IntKind.i64 (m : Int) 1 = (m : Int) % 2 := by decide +kernel
  exact h m (by omega)
theorem bit_of {j d : Nat} (k : Nat) (hj : j ≤ 256) (hd : j / 2 ^ k % 2 = d) : bits BinOp.and IntKind.i64 ((j : Int) / 2 ^ k) 1 = (d : Int) := by
  have e : ((j : Int) / 2 ^ k) = ((j / 2 ^ k : Nat) : Int) := by rw [Int.natCast_ediv, Int.natCast_pow]; rfl
  have hle : j / 2 ^ k ≤ j := Nat.div_le_self _ _
  rw [e, ← hd]
  obtain ⟨m, hm⟩ : ∃ m, j / 2 ^ k = m := ⟨_, rfl⟩
  rw [hm] at hle ⊢
  rw [and_one_i64 _ (by omega) (by omega)]
  omega
set_option maxHeartbeats 2000000 in
theorem specSM_any (a h c a' h' c' : Int) (A : Option Addr) (n cp : Nat) (xs : List Cst) (w : World) (hr : Rd cCst 2 w w.heap.size A n xs) (hn : n ≤ 1048576) :
    Calls Try.prog 42 #[.agg #[.int .i64 a, .int .i64 h, .int .i64 c], .agg #[.int .i64 a', .int .i64 h', .int .i64 c'], .slice A n cp] w (RetT (smS a h c a' h' c' xs).1 (smS a h c a' h' c' xs).2 (smB a h c a' h' c' xs) w) := by
  have hl := hr.1
  rcases sm_parts a h c a' h' c' xs with ⟨h1, hB⟩ | ⟨h1, h1', hB⟩ | ⟨h1, h1', h2, hB⟩ | ⟨h1, h1', h2, hB⟩
  · rw [smS_no hB, hB]
    have H1 := Lib.hid h1
    clear h1 hB
    go_enter Try.func42, Try.ntmps42
    go_wp2_with (go_at_call 46; refine (csMachine_any _ _ _ _).mono ?_; rw [H1.out]; rintro e w1 ⟨rfl, hb⟩)
    go_ret3
    exact rett_nil rfl (by repeat (first | (with_reducible exact Below.refl _ _) | (with_reducible assumption) | (with_reducible refine bl_alloc ?_ _) | (with_reducible refine bl_drew ?_) | (with_reducible refine bl_drewN ?_ _) | ((with_reducible refine bl_set ?_ ?hb _); (case hb => first | (simp; done) | omega | (simp; omega))) | (with_reducible refine bl_trans ?_ (by assumption)))) _ _
  · rw [smS_no hB, hB]
    have H1 := Lib.hid h1
    have H2 := Lib.hid h1'
    clear h1 h1' hB
    go_enter Try.func42, Try.ntmps42
    go_wp2_with fail
    refine (csMachine_any _ _ _ _).mono ?_
    rw [H1.out]
    rintro e w1 ⟨rfl, hb⟩
    obtain ⟨hc0, hf0, hz0⟩ := bl_at hb (k := w.heap.size) (by first | assumption | (simp; done) | (simp; omega)); obtain ⟨hc1, hf1, hz1⟩ := bl_at hb (k := w.heap.size + 1) (by first | assumption | (simp; done) | (simp; omega))
    have hB1 : Below w.heap.size w w1 := by repeat (first | (with_reducible exact Below.refl _ _) | (with_reducible assumption) | (with_reducible refine bl_alloc ?_ _) | (with_reducible refine bl_drew ?_) | (with_reducible refine bl_drewN ?_ _) | ((with_reducible refine bl_set ?_ ?hb _); (case hb => first | (simp; done) | omega | (simp; omega))) | (with_reducible refine bl_trans ?_ (by assumption)))
    clear hb
    go_wp2_with (go_at_call 46; refine (csMachine_any _ _ _ _).mono ?_; rw [H2.out]; rintro e w2 ⟨rfl, hb2⟩)
    go_ret3
    exact rett_nil rfl (bl_trans hB1 hb2) _ _
  · rw [smS_no hB, hB]
    have H1 := Lib.hid h1
    have H1' := Lib.hid h1'
    have H2 := Lib.hid h2
    clear h1 h1' h2 hB
    go_enter Try.func42, Try.ntmps42
    go_wp2_with fail
    refine (csMachine_any _ _ _ _).mono ?_
    rw [H1.out]
    rintro e w1 ⟨rfl, hb⟩
    obtain ⟨hc0, hf0, hz0⟩ := bl_at hb (k := w.heap.size) (by first | assumption | (simp; done) | (simp; omega)); obtain ⟨hc1, hf1, hz1⟩ := bl_at hb (k := w.heap.size + 1) (by first | assumption | (simp; done) | (simp; omega))
    have hB1 : Below w.heap.size w w1 := by repeat (first | (with_reducible exact Below.refl _ _) | (with_reducible assumption) | (with_reducible refine bl_alloc ?_ _) | (with_reducible refine bl_drew ?_) | (with_reducible refine bl_drewN ?_ _) | ((with_reducible refine bl_set ?_ ?hb _); (case hb => first | (simp; done) | omega | (simp; omega))) | (with_reducible refine bl_trans ?_ (by assumption)))
    clear hb
    go_wp2_with fail
    refine (csMachine_any _ _ _ _).mono ?_
    rw [H1'.out]
    rintro e w2 ⟨rfl, hb⟩
    have hB2 := bl_trans hB1 hb
    clear hb
    go_wp2_with (go_at_call 53; refine (csGood_any _ _ _ _ xs _ (hr.below hB2) hB2.size hn).mono ?_; rw [H2.out]; rintro e w3 ⟨rfl, hb2⟩)
    go_ret3
    exact rett_nil rfl (bl_trans hB2 hb2) _ _
  · rw [smS_yes hB, hB, hl]
    have H1 := Lib.hid h1
    have H1' := Lib.hid h1'
    have H2 := Lib.hid h2
    have hn8 := casts_len h2
    have HR := Lib.hid hr
    obtain ⟨i0, hi0, hi1, hi2, hi3⟩ := info_parts infoI
    have HSH := Lib.hid (fun (W : World) (hb : Below w.heap.size w W) (A1 : Option Addr) (k1 : Nat) (L : List Int) (hw : Rd cI 1 W W.heap.size A1 n L) => csShared_any a h c a' h' c' A n cp xs A1 n k1 L W ((hr.below hb).more hb.size) hw (by omega) (Nat.le_refl _) h1 h1' h2)
    have HLN := Lib.hid (shC_len (shT a h c a' h' c' xs) n)
    clear h1 h1' h2 hB
    go_enter Try.func42, Try.ntmps42
    go_wp2_with fail
    refine (csMachine_any _ _ _ _).mono ?_
    rw [H1.out]
    rintro e w1 ⟨rfl, hb⟩
    obtain ⟨hc0, hf0, hz0⟩ := bl_at hb (k := w.heap.size) (by first | assumption | (simp; done) | (simp; omega)); obtain ⟨hc1, hf1, hz1⟩ := bl_at hb (k := w.heap.size + 1) (by first | assumption | (simp; done) | (simp; omega))
    have hB1 : Below w.heap.size w w1 := by repeat (first | (with_reducible exact Below.refl _ _) | (with_reducible assumption) | (with_reducible refine bl_alloc ?_ _) | (with_reducible refine bl_drew ?_) | (with_reducible refine bl_drewN ?_ _) | ((with_reducible refine bl_set ?_ ?hb _); (case hb => first | (simp; done) | omega | (simp; omega))) | (with_reducible refine bl_trans ?_ (by assumption)))
    clear hb
    go_wp2_with fail
    refine (csMachine_any _ _ _ _).mono ?_
    rw [H1'.out]
    rintro e w2 ⟨rfl, hb⟩
    obtain ⟨hc3, hf3, hz3⟩ := bl_at hb (k := w.heap.size) hz0
    obtain ⟨hc4, hf4, hz4⟩ := bl_at hb (k := w.heap.size + 1) hz1
    have hB2 := bl_trans hB1 hb
    clear hb
    go_wp2_with fail
    refine (csGood_any _ _ _ _ xs _ (hr.below hB2) hB2.size hn).mono ?_
    rw [H2.out]
    rintro e wb ⟨rfl, hb⟩
    obtain ⟨hc5, hf5, hz5⟩ := bl_at hb (k := w.heap.size) hz3
    obtain ⟨hc6, hf6, hz6⟩ := bl_at hb (k := w.heap.size + 1) hz4
    have HB := Lib.hid (bl_trans hB2 hb)
    have hsb := HB.out.size
    obtain ⟨k1, k2⟩ := cells2 w #[.int .i64 a, .int .i64 h, .int .i64 c] #[.int .i64 a', .int .i64 h', .int .i64 c'] 25 25
    have D := Lib.hid (show (wb.cell? ⟨w.heap.size, 0, none⟩ = some (.int .i64 a) ∧ wb.cell? ⟨w.heap.size, 1, none⟩ = some (.int .i64 h) ∧ wb.cell? ⟨w.heap.size, 2, none⟩ = some (.int .i64 c)) ∧ (wb.cell? ⟨w.heap.size + 1, 0, none⟩ = some (.int .i64 a') ∧ wb.cell? ⟨w.heap.size + 1, 1, none⟩ = some (.int .i64 h') ∧ wb.cell? ⟨w.heap.size + 1, 2, none⟩ = some (.int .i64 c')) from
      ⟨⟨(hc5 0).trans ((hc3 0).trans ((hc0 0).trans (k1 0))), (hc5 1).trans ((hc3 1).trans ((hc0 1).trans (k1 1))), (hc5 2).trans ((hc3 2).trans ((hc0 2).trans (k1 2)))⟩,
       ⟨(hc6 0).trans ((hc4 0).trans ((hc1 0).trans (k2 0))), (hc6 1).trans ((hc4 1).trans ((hc1 1).trans (k2 1))), (hc6 2).trans ((hc4 2).trans ((hc1 2).trans (k2 2)))⟩⟩)
    clear hb hc0 hc1 hc3 hc4 hc5 hc6 hf0 hf1 hf3 hf4 hf5 hf6 k1 k2 hB1 hB2
    obtain ⟨N, hN⟩ : ∃ N : Nat, 2 ^ n = N := ⟨_, rfl⟩
    have HNN := Lib.hid hN
    have hN8 : N ≤ 256 := by rw [← hN]; exact Nat.pow_le_pow_right (by decide) (show n ≤ 8 by omega)
    rw [hN]
    have hwN : wrap64 ((2 : Int) ^ n) = (N : Int) := by
      have e : ((2 : Int) ^ n) = (N : Int) := by rw [← hN]; exact (Int.natCast_pow 2 n).symm
      rw [e]; unfold wrap64; omega
    clear hN
    go_wp2
    go_loopw [9, 10, 11] (fun b q i wr => ∃ (j : Nat) (A4 : Option Addr) (c4 : Nat), j ≤ N ∧ i = .int .i64 j ∧ b = .slice A4 (shC (shT a h c a' h' c' xs) n ([], -1) j).1.length c4 ∧ q = .int .i64 (shC (shT a h c a' h' c' xs) n ([], -1) j).2 ∧ Wr wr w.heap.size A4 (shC (shT a h c a' h' c' xs) n ([], -1) j).1.length (shC (shT a h c a' h' c' xs) n ([], -1) j).1 ∧ Below wb.heap.size wb wr) (fun _ _ i _ => N - (intOf i).toNat)
    case atStart => exact ⟨0, none, 0, Nat.zero_le _, rfl, by rw [shC_zero]; rfl, by rw [shC_zero], by rw [shC_zero]; exact wr_nil _ _ _, Below.refl _ _⟩
    case round =>
      obtain ⟨j, A4, c4, hj, rfl, rfl, rfl, hwj, hbj⟩ := hrel
      obtain ⟨⟨R, r⟩, hR⟩ : ∃ R, shC (shT a h c a' h' c' xs) n ([], -1) j = R := ⟨_, rfl⟩
      have HRJ := Lib.hid hR
      rw [hR] at hwj
      rw [hR]
      dsimp only at hwj ⊢
      clear hR
      have WJ := Lib.hid hwj
      have BJ := Lib.hid hbj
      have hsj := hbj.size
      clear hwj hbj
      by_cases hlt : j < N
      · have hlt' : (j : Int) < (N : Int) := by omega
        go_wp2
        rw [hwN]
        clear hwN
        obtain ⟨wo, rfl⟩ : ∃ wo : World, wo = wr := ⟨_, rfl⟩
        go_loopw [12, 38] (fun s i wr => ∃ q : Nat, q ≤ n ∧ i = .int .i64 q ∧ wr.ownsRow wo.heap.size 3 1 s q (((bitsL n j).take q).map (Value.int .i64)) ∧ Below wo.heap.size wo wr) (fun _ i _ => n - (intOf i).toNat)
        case atStart => exact ⟨0, Nat.zero_le _, rfl, World.ownsRow_nil _ _ _ _, Below.refl _ _⟩
        case round =>
          obtain ⟨q, hq, rfl, ho, hb⟩ := hrel
          have HO := Lib.hid ho
          have HB' := Lib.hid hb
          have hsq := hb.size
          clear ho hb
          by_cases hql : q < n
          · obtain ⟨d, hd⟩ : ∃ d : Nat, j / 2 ^ (n - 1 - q) % 2 = d := ⟨_, rfl⟩
            have HTK := Lib.hid (show (bitsL n j).take (q + 1) = (bitsL n j).take q ++ [(d : Int)] by rw [← hd]; exact bitsL_take hql)
            have hbit := bit_of (n - 1 - q) (show j ≤ 256 by omega) hd
            clear hd
            go_wp2_with (at_builtin; refine wpList_append_own_at _ rfl _ _ 42 rfl wo.heap.size 3 i0 (.int .i64 0) 1 8 Try.underlying42 hi0 hi1 hi2 hi3 rfl (by decide) _ _ _ rfl ((HO.out.alloc _)) ⟨wr.heap.size, 0, none⟩ 1 1 [.int .i64 ((d : Int))] rfl rfl ?zc1 ?zc2 ?zc3 ?zc4 ?zc5 ?_)
            case zc1 => exact cell_one_new _ _ _
            case zc2 => first | rfl | (intro u hu; simp at hu; subst hu; rfl)
            case zc3 => unfold maxLen; omega
            case zc4 => omega
            case zc5 => simp; omega
            intro v2 w5 hown5 hg5 _ hat5
            have HO5 := Lib.hid hown5
            have HB5 := Lib.hid (below_grow HB'.out HO.out hg5 (Nat.le_refl _) hsq)
            clear hown5 hg5 hat5
            go_wp2
            go_roundw
            case rel => exact ⟨q + 1, by omega, by go_num, by rw [HTK.out]; simpa using HO5.out, HB5.out⟩
            case measure => simp [intOf]; omega
          · have hqn : q = n := by omega
            rw [hqn, show (bitsL n j).take n = bitsL n j from List.take_of_length_le (by rw [bitsL_len]; exact Nat.le_refl _)] at HO
            obtain ⟨A2, c2, rfl, hw2⟩ := own_wr HO.out
            have hc2 := own_cap HO.out
            have HS := Lib.hid (HSH.out _ (HB.out.trans (BJ.out.trans (HB'.out.mono hsj) |>.mono hsb)) A2 c2 (bitsL n j) hw2.rd)
            have HW2 := Lib.hid (wr_base hw2 (show w.heap.size ≤ wo.heap.size by omega))
            subst hqn
            obtain ⟨T, hT⟩ : ∃ T, shT a h c a' h' c' xs (bitsL q j) = T := ⟨_, rfl⟩
            have HTT := Lib.hid hT
            rw [hT] at HS
            have hbr := BJ.out.trans (HB'.out.mono hsj)
            have HBR := Lib.hid hbr
            have d0 := (hbr.cell (p := ⟨w.heap.size, 0, none⟩) hz5).trans D.out.1.1
            have d1 := (hbr.cell (p := ⟨w.heap.size, 1, none⟩) hz5).trans D.out.1.2.1
            have d2 := (hbr.cell (p := ⟨w.heap.size, 2, none⟩) hz5).trans D.out.1.2.2
            have e0 := (hbr.cell (p := ⟨w.heap.size + 1, 0, none⟩) hz6).trans D.out.2.1
            have e1 := (hbr.cell (p := ⟨w.heap.size + 1, 1, none⟩) hz6).trans D.out.2.2.1
            have e2 := (hbr.cell (p := ⟨w.heap.size + 1, 2, none⟩) hz6).trans D.out.2.2.2
            have hsr := HB'.out.size
            clear hT hw2 hbr
            by_cases hneg : r < 0 ∨ T < r
            · have HN := Lib.hid (show shC (shT a h c a' h' c' xs) q ([], -1) (j + 1) = (bitsL q j, T) by rw [shC_succ, HRJ.out, shStep_new (by rw [HTT.out]; exact hneg), HTT.out])
              have HNG := Lib.hid hneg
              by_cases hn0 : r < 0
              · clear hneg
                go_wp2_with (go_at_call 67; refine HS.out.mono ?_; rintro e w7 ⟨rfl, hb⟩; have HB7 := Lib.hid hb; clear hb)
                go_roundw
                case rel => exact ⟨j + 1, A2, c2, by omega, by go_num, by rw [HN.out, bitsL_len], by rw [HN.out], by rw [HN.out, bitsL_len]; exact HW2.out.below HB7.out, HBR.out.trans (HB7.out.mono (by omega))⟩
                case measure => simp [intOf]; omega
              · have htl : T < r := by
                  rcases HNG.out with h | h
                  · omega
                  · exact h
                clear hneg
                go_wp2_with (go_at_call 67; refine HS.out.mono ?_; rintro e w7 ⟨rfl, hb⟩; have HB7 := Lib.hid hb; clear hb)
                go_roundw
                case rel => exact ⟨j + 1, A2, c2, by omega, by go_num, by rw [HN.out, bitsL_len], by rw [HN.out], by rw [HN.out, bitsL_len]; exact HW2.out.below HB7.out, HBR.out.trans (HB7.out.mono (by omega))⟩
                case measure => simp [intOf]; omega
            · have HN := Lib.hid (show shC (shT a h c a' h' c' xs) q ([], -1) (j + 1) = (R, r) by rw [shC_succ, HRJ.out, shStep_old (by rw [HTT.out]; exact hneg)])
              have hn0 : ¬ r < 0 := fun h => hneg (.inl h)
              have htl : ¬ T < r := fun h => hneg (.inr h)
              clear hneg
              go_wp2_with (go_at_call 67; refine HS.out.mono ?_; rintro e w7 ⟨rfl, hb⟩; have HB7 := Lib.hid hb; clear hb)
              go_roundw
              case rel => exact ⟨j + 1, A4, c4, by omega, by go_num, by rw [HN.out], by rw [HN.out], by rw [HN.out]; exact WJ.out.below (HB'.out.trans (HB7.out.mono hsr)), HBR.out.trans (HB7.out.mono (by omega))⟩
              case measure => simp [intOf]; omega
      · obtain rfl : j = N := by omega
        go_wp2
        go_ret3
        rw [HNN.out, HRJ.out]
        exact ⟨A4, c4, rfl, WJ.out, bl_trans HB.out BJ.out⟩
end Go.Proofs.Ytabmhmbmdegoaaa
