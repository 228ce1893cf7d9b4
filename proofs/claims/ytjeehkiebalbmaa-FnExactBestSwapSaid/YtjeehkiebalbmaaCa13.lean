/-
  The best exchange: the walks of the searches; the law's walk.
-/
import Derived.Test.YtjeehkiebalbmaaCa12
namespace Go.Proofs.Ytjeehkiebalbmaa
open Go.RowKit
set_option linter.unusedVariables false
attribute [local go_sem ↓] Go.wp_at_zero Go.wp_at_succ

set_option maxHeartbeats 2000000 in
theorem specBS_yes (A A' : Option Addr) (n n' c c' : Nat) (xs : List Box) (cs : List ByteArray) (w : World) (hh : Hand w A A' n n' c xs cs) (h : askB xs cs = true) (h2n : 2 ≤ n) :
    Calls Try.prog 30 #[.slice A n c, .slice A' n' c'] w (QuadB (sxX (bsOut xs cs n n)) (sxY (bsOut xs cs n n)) (sxD (bsOut xs cs n n)) true w) := by
  obtain ⟨h1, h2, h3, h4, h5, h6⟩ := hh
  have hA := caAsked_any A n c xs A' n' c' cs w h1 h2 h3 h4 h5 h6
  have hl := h1.1
  have hw := ask_way h
  have hlen : n ≤ 32 := by
    unfold askB at h
    simp only [Bool.and_eq_true] at h
    have := (case_len h.2.1).2
    omega
  rw [h] at hA
  have HA := Lib.hid hA
  have HWY := Lib.hid hw
  have HOK := Lib.hid (bsOut_ok hw)
  have HTO := Lib.hid (fun m s (hs : bsOk s) => bsTo_ok hw (m := m) hs)
  have HSW := Lib.hid (fun (a b : Nat) (hab : a < b) (hb : b < n) (W : World) (hb2 : Below w.heap.size w W) => caSwap_any A n c _ xs a b W (h1.below hb2) hb2.size h3 hab hb)
  have HSL := Lib.hid (swapL_len xs)
  have HSY := Lib.hid (fun (a b : Nat) (hab : a < b) (hb : b < xs.length) => swap_way hab hb hw)
  have HD := Lib.hid (fun (a b : Nat) (hab : a < b) (hb : b < xs.length) => bsD_bd hw hab hb)
  have HL := Lib.hid hl
  clear hA h h5 hw hl
  go_enter Try.func30, Try.ntmps30
  go_wp2_with (go_at_call 45; refine HA.out.mono ?_; rintro e W ⟨rfl, hbW⟩)
  have HW := Lib.hid hbW
  clear hbW
  go_loopw [8, 9, 10, 25] (fun p q b i wr => ∃ m : Nat, m ≤ n ∧ i = .int .i64 m ∧ p = .int .i64 (sxX (bsOut xs cs n m)) ∧ q = .int .i64 (sxY (bsOut xs cs n m)) ∧ b = .int .i64 (sxD (bsOut xs cs n m)) ∧ Below W.heap.size W wr) (fun _ _ _ i _ => n - (intOf i).toNat)
  case atStart => exact ⟨0, Nat.zero_le _, rfl, rfl, rfl, rfl, Below.refl _ _⟩
  case round =>
    obtain ⟨m, hm, rfl, rfl, rfl, rfl, hb⟩ := hrel
    by_cases hlt : m < n
    · obtain ⟨wo, rfl⟩ : ∃ wo : World, wo = wr := ⟨_, rfl⟩
      have HB := Lib.hid hb
      have hmn : (m : Int) < (n : Int) := by omega
      have hok0 := HOK.out m
      rw [HL.out] at hok0
      obtain ⟨st0, hst0⟩ : ∃ st, bsOut xs cs n m = st := ⟨_, rfl⟩
      have HO1 := Lib.hid (show bsOut xs cs n (m + 1) = bsTo xs cs m st0 n by rw [← hst0]; rfl)
      have HF := Lib.hid (bsTo_first xs cs m st0 (m + 1) (Nat.le_refl _))
      rw [hst0] at hok0
      rw [hst0]
      have HOK0 := Lib.hid hok0
      clear hb hst0 hok0
      go_wp2
      go_loopw [8, 9, 10, 12] (fun p q b i wr => ∃ k : Nat, m + 1 ≤ k ∧ k ≤ n ∧ i = .int .i64 k ∧ p = .int .i64 (sxX (bsTo xs cs m st0 k)) ∧ q = .int .i64 (sxY (bsTo xs cs m st0 k)) ∧ b = .int .i64 (sxD (bsTo xs cs m st0 k)) ∧ Below W.heap.size W wr) (fun _ _ _ i _ => n - (intOf i).toNat)
      case atStart => exact ⟨m + 1, Nat.le_refl _, by omega, by go_num, by rw [HF.out], by rw [HF.out], by rw [HF.out], HB.out⟩
      case round =>
        obtain ⟨k, hk1, hk, rfl, rfl, rfl, rfl, hb⟩ := hrel
        by_cases hltk : k < n
        · have hkn : (k : Int) < (n : Int) := by omega
          have hstep := bsTo_snoc xs cs st0 (show m < k by omega)
          have hok := HTO.out m st0 HOK0.out k (by have := HL.out; omega)
          have hd := HD.out m k (by omega) (by have := HL.out; omega)
          have hwy := HSY.out m k (by omega) (by have := HL.out; omega)
          obtain ⟨st, hst⟩ : ∃ st, bsTo xs cs m st0 k = st := ⟨_, rfl⟩
          rw [hst] at hstep hok
          rw [hst]
          have HB2 := Lib.hid hb
          have HBD := Lib.hid (show (wayTo (swapL xs m k) cs cs.length).sum = bsD xs cs m k from rfl)
          have HWK := Lib.hid hwy
          clear hst hb hwy
          rcases st with _ | ⟨sa, sb, sd⟩
          · rw [show bsStep xs cs m k none = some (m, k, bsD xs cs m k) from rfl] at hstep
            have HST := Lib.hid hstep
            clear hstep hok
            dsimp only [sxX, sxY, sxD]
            go_wp2_with fail
            refine (HSW.out m k (by omega) hltk _ (bl_trans HW.out HB2.out)).mono ?_
            rintro e w2 ⟨A2, c2, rfl, hy2, hb2⟩
            have HB3 := Lib.hid (bl_trans HB2.out hb2)
            rw [HSL.out, HL.out] at hy2 ⊢
            have HY := Lib.hid hy2
            clear hb2 hy2
            go_wp2_with fail
            refine (caWay_any _ _ _ (swapL xs m k) _ _ _ cs _ HY.out ((h2.below (bl_trans HW.out HB3.out)).more (bl_trans HW.out HB3.out).size) h3 HWK.out).mono ?_
            rintro e w3 ⟨rfl, hb3⟩
            have HB4 := Lib.hid (bl_trans HB3.out hb3)
            clear hb3
            rw [HBD.out]
            go_wp2
            go_roundw
            case rel => exact ⟨k + 1, by omega, by omega, by go_num, by rw [HST.out] <;> rfl, by rw [HST.out] <;> rfl, by rw [HST.out] <;> rfl, HB4.out⟩
            case measure => simp [intOf]; omega
          · obtain ⟨d0, d1⟩ := hok sa sb sd rfl
            by_cases hless : bsD xs cs m k < sd
            · rw [show bsStep xs cs m k (some (sa, sb, sd)) = some (m, k, bsD xs cs m k) by simp [bsStep, hless]] at hstep
              have HST := Lib.hid hstep
              clear hstep hok
              dsimp only [sxX, sxY, sxD]
              go_wp2_with fail
              refine (HSW.out m k (by omega) hltk _ (bl_trans HW.out HB2.out)).mono ?_
              rintro e w2 ⟨A2, c2, rfl, hy2, hb2⟩
              have HB3 := Lib.hid (bl_trans HB2.out hb2)
              rw [HSL.out, HL.out] at hy2 ⊢
              have HY := Lib.hid hy2
              clear hb2 hy2
              go_wp2_with fail
              refine (caWay_any _ _ _ (swapL xs m k) _ _ _ cs _ HY.out ((h2.below (bl_trans HW.out HB3.out)).more (bl_trans HW.out HB3.out).size) h3 HWK.out).mono ?_
              rintro e w3 ⟨rfl, hb3⟩
              have HB4 := Lib.hid (bl_trans HB3.out hb3)
              clear hb3
              rw [HBD.out]
              go_wp2
              go_roundw
              case rel => exact ⟨k + 1, by omega, by omega, by go_num, by rw [HST.out] <;> rfl, by rw [HST.out] <;> rfl, by rw [HST.out] <;> rfl, HB4.out⟩
              case measure => simp [intOf]; omega
            · rw [show bsStep xs cs m k (some (sa, sb, sd)) = some (sa, sb, sd) by simp [bsStep, hless]] at hstep
              have HST := Lib.hid hstep
              clear hstep hok
              dsimp only [sxX, sxY, sxD]
              go_wp2_with fail
              refine (HSW.out m k (by omega) hltk _ (bl_trans HW.out HB2.out)).mono ?_
              rintro e w2 ⟨A2, c2, rfl, hy2, hb2⟩
              have HB3 := Lib.hid (bl_trans HB2.out hb2)
              rw [HSL.out, HL.out] at hy2 ⊢
              have HY := Lib.hid hy2
              clear hb2 hy2
              go_wp2_with fail
              refine (caWay_any _ _ _ (swapL xs m k) _ _ _ cs _ HY.out ((h2.below (bl_trans HW.out HB3.out)).more (bl_trans HW.out HB3.out).size) h3 HWK.out).mono ?_
              rintro e w3 ⟨rfl, hb3⟩
              have HB4 := Lib.hid (bl_trans HB3.out hb3)
              clear hb3
              rw [HBD.out]
              go_wp2
              go_roundw
              case rel => exact ⟨k + 1, by omega, by omega, by go_num, by rw [HST.out] <;> rfl, by rw [HST.out] <;> rfl, by rw [HST.out] <;> rfl, HB4.out⟩
              case measure => simp [intOf]; omega
        · obtain rfl : k = n := by omega
          have HB2 := Lib.hid hb
          clear hb
          go_wp2
          go_roundw
          case rel => exact ⟨m + 1, by omega, by go_num, by rw [HO1.out], by rw [HO1.out], by rw [HO1.out], HB2.out⟩
          case measure => simp [intOf]; omega
    · obtain rfl : m = n := by omega
      have HB2 := Lib.hid (bl_trans HW.out hb)
      clear hb
      go_wp2
      refine bodyPost_ret (v := .tuple #[.int .i64 (sxX (bsOut xs cs m m)), .int .i64 (sxY (bsOut xs cs m m)), .int .i64 (sxD (bsOut xs cs m m)), .bool true]) (by simp [results, Try.results30, go_sem]) rfl (quad_b rfl rfl rfl rfl HB2.out)
set_option maxHeartbeats 2000000 in
theorem implBS_yes (A A' : Option Addr) (n n' c c' : Nat) (xs : List Box) (cs : List ByteArray) (w : World) (hh : Hand w A A' n n' c xs cs) (h : askB xs cs = true) (h2n : 2 ≤ n) :
    Calls Try.prog 31 #[.slice A n c, .slice A' n' c'] w (QuadB (ixX (bsOut xs cs n n)) (ixY (bsOut xs cs n n)) (ixD (bsOut xs cs n n)) true w) := by
  obtain ⟨h1, h2, h3, h4, h5, h6⟩ := hh
  have hA := areCodes_any A n c xs A' n' c' cs w h1 h2 h3 h4 h5 h6
  have hl := h1.1
  have hw := ask_way h
  have hlen : n ≤ 32 := by
    unfold askB at h
    simp only [Bool.and_eq_true] at h
    have := (case_len h.2.1).2
    omega
  rw [h] at hA
  have HA := Lib.hid hA
  have HWY := Lib.hid hw
  have HOK := Lib.hid (bsOut_ok hw)
  have HTO := Lib.hid (fun m s (hs : bsOk s) => bsTo_ok hw (m := m) hs)
  have HSW := Lib.hid (fun (a b : Nat) (hab : a < b) (hb : b < n) (W : World) (hb2 : Below w.heap.size w W) => implSwap_any A n c _ xs a b W (h1.below hb2) hb2.size h3 hab hb)
  have HSL := Lib.hid (swapL_len xs)
  have HSY := Lib.hid (fun (a b : Nat) (hab : a < b) (hb : b < xs.length) => swap_way hab hb hw)
  have HD := Lib.hid (fun (a b : Nat) (hab : a < b) (hb : b < xs.length) => bsD_bd hw hab hb)
  have HL := Lib.hid hl
  clear hA h h5 hw hl
  go_enter Try.func31, Try.ntmps31
  go_wp2_with (go_at_call 47; refine HA.out.mono ?_; rintro e W ⟨rfl, hbW⟩)
  have HW := Lib.hid hbW
  clear hbW
  go_loopw [8, 9, 10, 25] (fun p q b i wr => ∃ m : Nat, m ≤ n ∧ i = .int .i64 m ∧ p = .int .i64 (ixX (bsOut xs cs n m)) ∧ q = .int .i64 (ixY (bsOut xs cs n m)) ∧ b = .int .i64 (ixD (bsOut xs cs n m)) ∧ Below W.heap.size W wr) (fun _ _ _ i _ => n - (intOf i).toNat)
  case atStart => exact ⟨0, Nat.zero_le _, rfl, rfl, rfl, rfl, Below.refl _ _⟩
  case round =>
    obtain ⟨m, hm, rfl, rfl, rfl, rfl, hb⟩ := hrel
    by_cases hlt : m < n
    · obtain ⟨wo, rfl⟩ : ∃ wo : World, wo = wr := ⟨_, rfl⟩
      have HB := Lib.hid hb
      have hmn : (m : Int) < (n : Int) := by omega
      have hok0 := HOK.out m
      rw [HL.out] at hok0
      obtain ⟨st0, hst0⟩ : ∃ st, bsOut xs cs n m = st := ⟨_, rfl⟩
      have HO1 := Lib.hid (show bsOut xs cs n (m + 1) = bsTo xs cs m st0 n by rw [← hst0]; rfl)
      have HF := Lib.hid (bsTo_first xs cs m st0 (m + 1) (Nat.le_refl _))
      rw [hst0] at hok0
      rw [hst0]
      have HOK0 := Lib.hid hok0
      clear hb hst0 hok0
      go_wp2
      go_loopw [8, 9, 10, 12] (fun p q b i wr => ∃ k : Nat, m + 1 ≤ k ∧ k ≤ n ∧ i = .int .i64 k ∧ p = .int .i64 (ixX (bsTo xs cs m st0 k)) ∧ q = .int .i64 (ixY (bsTo xs cs m st0 k)) ∧ b = .int .i64 (ixD (bsTo xs cs m st0 k)) ∧ Below W.heap.size W wr) (fun _ _ _ i _ => n - (intOf i).toNat)
      case atStart => exact ⟨m + 1, Nat.le_refl _, by omega, by go_num, by rw [HF.out], by rw [HF.out], by rw [HF.out], HB.out⟩
      case round =>
        obtain ⟨k, hk1, hk, rfl, rfl, rfl, rfl, hb⟩ := hrel
        by_cases hltk : k < n
        · have hkn : (k : Int) < (n : Int) := by omega
          have hstep := bsTo_snoc xs cs st0 (show m < k by omega)
          have hok := HTO.out m st0 HOK0.out k (by have := HL.out; omega)
          have hd := HD.out m k (by omega) (by have := HL.out; omega)
          have hwy := HSY.out m k (by omega) (by have := HL.out; omega)
          obtain ⟨st, hst⟩ : ∃ st, bsTo xs cs m st0 k = st := ⟨_, rfl⟩
          rw [hst] at hstep hok
          rw [hst]
          have HB2 := Lib.hid hb
          have HBD := Lib.hid (show (wayTo (swapL xs m k) cs cs.length).sum = bsD xs cs m k from rfl)
          have HWK := Lib.hid hwy
          clear hst hb hwy
          rcases st with _ | ⟨sa, sb, sd⟩
          · rw [show bsStep xs cs m k none = some (m, k, bsD xs cs m k) from rfl] at hstep
            have HST := Lib.hid hstep
            clear hstep hok
            dsimp only [ixX, ixY, ixD]
            go_wp2_with fail
            refine (HSW.out m k (by omega) hltk _ (bl_trans HW.out HB2.out)).mono ?_
            rintro e w2 ⟨A2, c2, rfl, hy2, hb2⟩
            have HB3 := Lib.hid (bl_trans HB2.out hb2)
            rw [HSL.out, HL.out] at hy2 ⊢
            have HY := Lib.hid hy2
            clear hb2 hy2
            go_wp2_with fail
            refine (handWay_any _ _ _ (swapL xs m k) _ _ _ cs _ HY.out ((h2.below (bl_trans HW.out HB3.out)).more (bl_trans HW.out HB3.out).size) h3 HWK.out).mono ?_
            rintro e w3 ⟨rfl, hb3⟩
            have HB4 := Lib.hid (bl_trans HB3.out hb3)
            clear hb3
            rw [HBD.out]
            go_wp2
            go_roundw
            case rel => exact ⟨k + 1, by omega, by omega, by go_num, by rw [HST.out] <;> rfl, by rw [HST.out] <;> rfl, by rw [HST.out] <;> rfl, HB4.out⟩
            case measure => simp [intOf]; omega
          · obtain ⟨d0, d1⟩ := hok sa sb sd rfl
            by_cases hless : bsD xs cs m k < sd
            · rw [show bsStep xs cs m k (some (sa, sb, sd)) = some (m, k, bsD xs cs m k) by simp [bsStep, hless]] at hstep
              have HST := Lib.hid hstep
              clear hstep hok
              dsimp only [ixX, ixY, ixD]
              go_wp2_with fail
              refine (HSW.out m k (by omega) hltk _ (bl_trans HW.out HB2.out)).mono ?_
              rintro e w2 ⟨A2, c2, rfl, hy2, hb2⟩
              have HB3 := Lib.hid (bl_trans HB2.out hb2)
              rw [HSL.out, HL.out] at hy2 ⊢
              have HY := Lib.hid hy2
              clear hb2 hy2
              go_wp2_with fail
              refine (handWay_any _ _ _ (swapL xs m k) _ _ _ cs _ HY.out ((h2.below (bl_trans HW.out HB3.out)).more (bl_trans HW.out HB3.out).size) h3 HWK.out).mono ?_
              rintro e w3 ⟨rfl, hb3⟩
              have HB4 := Lib.hid (bl_trans HB3.out hb3)
              clear hb3
              rw [HBD.out]
              go_wp2
              go_roundw
              case rel => exact ⟨k + 1, by omega, by omega, by go_num, by rw [HST.out] <;> rfl, by rw [HST.out] <;> rfl, by rw [HST.out] <;> rfl, HB4.out⟩
              case measure => simp [intOf]; omega
            · rw [show bsStep xs cs m k (some (sa, sb, sd)) = some (sa, sb, sd) by simp [bsStep, hless]] at hstep
              have HST := Lib.hid hstep
              clear hstep hok
              dsimp only [ixX, ixY, ixD]
              go_wp2_with fail
              refine (HSW.out m k (by omega) hltk _ (bl_trans HW.out HB2.out)).mono ?_
              rintro e w2 ⟨A2, c2, rfl, hy2, hb2⟩
              have HB3 := Lib.hid (bl_trans HB2.out hb2)
              rw [HSL.out, HL.out] at hy2 ⊢
              have HY := Lib.hid hy2
              clear hb2 hy2
              go_wp2_with fail
              refine (handWay_any _ _ _ (swapL xs m k) _ _ _ cs _ HY.out ((h2.below (bl_trans HW.out HB3.out)).more (bl_trans HW.out HB3.out).size) h3 HWK.out).mono ?_
              rintro e w3 ⟨rfl, hb3⟩
              have HB4 := Lib.hid (bl_trans HB3.out hb3)
              clear hb3
              rw [HBD.out]
              go_wp2
              go_roundw
              case rel => exact ⟨k + 1, by omega, by omega, by go_num, by rw [HST.out] <;> rfl, by rw [HST.out] <;> rfl, by rw [HST.out] <;> rfl, HB4.out⟩
              case measure => simp [intOf]; omega
        · obtain rfl : k = n := by omega
          have HB2 := Lib.hid hb
          clear hb
          go_wp2
          go_roundw
          case rel => exact ⟨m + 1, by omega, by go_num, by rw [HO1.out], by rw [HO1.out], by rw [HO1.out], HB2.out⟩
          case measure => simp [intOf]; omega
    · obtain rfl : m = n := by omega
      have HB2 := Lib.hid (bl_trans HW.out hb)
      clear hb
      go_wp2
      refine bodyPost_ret (v := .tuple #[.int .i64 (ixX (bsOut xs cs m m)), .int .i64 (ixY (bsOut xs cs m m)), .int .i64 (ixD (bsOut xs cs m m)), .bool true]) (by simp [results, Try.results31, go_sem]) rfl (quad_b rfl rfl rfl rfl HB2.out)
def bsX (xs : List Box) (cs : List ByteArray) : Int := oV (bsB xs cs) (ixX (bsOut xs cs xs.length xs.length))
def bsY (xs : List Box) (cs : List ByteArray) : Int := oV (bsB xs cs) (ixY (bsOut xs cs xs.length xs.length))
def bsV (xs : List Box) (cs : List ByteArray) : Int := oV (bsB xs cs) (ixD (bsOut xs cs xs.length xs.length))
theorem bs_same {xs : List Box} {cs : List ByteArray} (h : 2 ≤ xs.length) : sxX (bsOut xs cs xs.length xs.length) = ixX (bsOut xs cs xs.length xs.length) ∧ sxY (bsOut xs cs xs.length xs.length) = ixY (bsOut xs cs xs.length xs.length) ∧ sxD (bsOut xs cs xs.length xs.length) = ixD (bsOut xs cs xs.length xs.length) := by
  have := bsOut_some (xs := xs) (cs := cs) h xs.length (by omega)
  rcases hs : bsOut xs cs xs.length xs.length with _ | ⟨r, c, d⟩
  · exact absurd hs this
  · exact ⟨rfl, rfl, rfl⟩
theorem specBS_any (A A' : Option Addr) (n n' c c' : Nat) (xs : List Box) (cs : List ByteArray) (w : World) (hh : Hand w A A' n n' c xs cs) :
    Calls Try.prog 30 #[.slice A n c, .slice A' n' c'] w (QuadB (bsX xs cs) (bsY xs cs) (bsV xs cs) (bsB xs cs) w) := by
  unfold bsX bsY bsV
  have hl := hh.1.1
  subst hl
  rcases h : bsB xs cs with _ | _
  · exact specBS_no A A' _ n' c c' xs cs w hh h
  · rw [oV_yes rfl, oV_yes rfl, oV_yes rfl]
    unfold bsB at h
    rw [Bool.and_eq_true] at h
    have h2 : 2 ≤ xs.length := of_decide_eq_true h.2
    first
      | exact implBS_yes A A' _ n' c c' xs cs w hh h.1 h2
      | (obtain ⟨e1, e2, e3⟩ := bs_same (cs := cs) h2
         rw [← e1, ← e2, ← e3]
         exact specBS_yes A A' _ n' c c' xs cs w hh h.1 h2)
theorem implBS_any (A A' : Option Addr) (n n' c c' : Nat) (xs : List Box) (cs : List ByteArray) (w : World) (hh : Hand w A A' n n' c xs cs) :
    Calls Try.prog 31 #[.slice A n c, .slice A' n' c'] w (QuadB (bsX xs cs) (bsY xs cs) (bsV xs cs) (bsB xs cs) w) := by
  unfold bsX bsY bsV
  have hl := hh.1.1
  subst hl
  rcases h : bsB xs cs with _ | _
  · exact implBS_no A A' _ n' c c' xs cs w hh h
  · rw [oV_yes rfl, oV_yes rfl, oV_yes rfl]
    unfold bsB at h
    rw [Bool.and_eq_true] at h
    have h2 : 2 ≤ xs.length := of_decide_eq_true h.2
    first
      | exact implBS_yes A A' _ n' c c' xs cs w hh h.1 h2
      | (obtain ⟨e1, e2, e3⟩ := bs_same (cs := cs) h2
         rw [← e1, ← e2, ← e3]
         exact specBS_yes A A' _ n' c c' xs cs w hh h.1 h2)
set_option maxHeartbeats 2000000 in
theorem lawBestSwap (A : Option Addr) (n c : Nat) (xs : List Box) (A' : Option Addr) (n' c' : Nat) (cs : List ByteArray) (w : World) (hr : Rd cBox 4 w w.heap.size A n xs) (hn : n ≤ maxLen) (hok : ∀ x ∈ xs, okBox x) (hrs : Rd cS 1 w w.heap.size A' n' cs) (hnn : n' ≤ maxLen) (hoks : ∀ x ∈ cs, x.size ≤ maxLen) : Calls Try.prog 9 #[.slice A n c, .slice A' n' c'] w fun e w' => e = .returned (.bool (true)) ∧ Below w.heap.size w w' := by
  have hn' := hn
  unfold maxLen at hn'
  have hnn' := hnn
  unfold maxLen at hnn'
  have HN := Lib.hid hn
  have HNN := Lib.hid hnn
  have HOK := Lib.hid hok
  have HS := Lib.hid (szBoxS_any A n c _ xs 1048576 w hr (Nat.le_refl _) hn hok (by omega) (by omega))
  have HSS := Lib.hid (fun (l : Int) (W : World) (h : Below w.heap.size w W) h0 h1 => szStringS_any A' n' c' _ cs l W (hrs.below h) hnn hoks h0 h1)
  clear hn hok hnn hoks
  go_enter Try.func9, Try.ntmps9
  go_wp2_with fail
  refine HS.out.mono ?_
  rintro e w0 ⟨r, rfl, hsz, hb0⟩
  have HSZ := Lib.hid hsz
  have HB0 := Lib.hid hb0
  clear hsz hb0
  by_cases hneg : r < 0
  · go_wp2_with fail
    go_ret
    exact ⟨rfl, HB0.out⟩
  have hn2 : n ≤ 1048576 := by
    rcases HSZ.out with h | h <;> omega
  have hr1 : r ≤ 1048576 := by
    rcases HSZ.out with h | h <;> omega
  go_wp2_with fail
  refine (HSS.out r _ HB0.out (by omega) hr1).mono ?_
  rintro e w00 ⟨r2, rfl, hsz2, rfl⟩
  have HSZ2 := Lib.hid hsz2
  clear hsz2
  by_cases hneg2 : r2 < 0
  · go_wp2_with fail
    go_ret
    exact ⟨rfl, HB0.out⟩
  have hn3 : n' ≤ 1048576 := by
    rcases HSZ2.out with h | h <;> omega
  have HT := Lib.hid (fun (W : World) (h : Below w.heap.size w W) => toBoxS_cap A n c _ xs W (hr.below h) h.size hn2)
  have HI := Lib.hid (fun (W : World) (h : Below w.heap.size w W) => toStringS_cap A' n' c' _ cs W (hrs.below h) h.size hn3)
  go_wp2_with fail
  refine (HT.out _ HB0.out).mono ?_
  rintro e w1 ⟨A1, rfl, h1, hb⟩
  have HB1 := Lib.hid (bl_trans HB0.out hb)
  clear hb
  go_wp2_with fail
  refine (HI.out _ HB1.out).mono ?_
  rintro e w2 ⟨A2, rfl, h2, hb⟩
  have HB2 := Lib.hid (bl_trans HB1.out hb)
  have HO2 := Lib.hid (show Hand w2 A1 A2 n n' n xs cs from ⟨(h1.below hb).rd, h2.rd, hn2, hn3, HOK.out, Nat.le_refl _⟩)
  clear hb h1 h2
  go_wp2_with fail
  refine (specBS_any _ _ _ _ _ _ xs cs _ HO2.out).mono ?_
  rintro e w3 ⟨rfl, hb⟩
  have HB3 := Lib.hid (bl_trans HB2.out hb)
  clear hb
  go_wp2_with fail
  refine (HT.out _ HB3.out).mono ?_
  rintro e w4 ⟨A4, rfl, h4, hb⟩
  have HB4 := Lib.hid (bl_trans HB3.out hb)
  clear hb
  go_wp2_with fail
  refine (HI.out _ HB4.out).mono ?_
  rintro e w5 ⟨A5, rfl, h5, hb⟩
  have HB5 := Lib.hid (bl_trans HB4.out hb)
  have HO5 := Lib.hid (show Hand w5 A4 A5 n n' n xs cs from ⟨(h4.below hb).rd, h5.rd, hn2, hn3, HOK.out, Nat.le_refl _⟩)
  have H4 := Lib.hid (h4.below hb)
  have H5 := Lib.hid h5
  clear hb h4 h5
  go_wp2_with fail
  refine (implBS_any _ _ _ _ _ _ xs cs _ HO5.out).mono ?_
  rintro e w6 ⟨rfl, hb⟩
  have HB6 := Lib.hid (bl_trans HB5.out hb)
  have H46 := Lib.hid (H4.out.below hb)
  have H56 := Lib.hid (H5.out.below hb)
  clear hb
  go_wp2_with fail
  refine (HT.out _ HB6.out).mono ?_
  rintro e w7 ⟨A7, rfl, h7, hb⟩
  have HB7 := Lib.hid (bl_trans HB6.out hb)
  have H47 := Lib.hid (H46.out.below hb)
  have H57 := Lib.hid (H56.out.below hb)
  clear hb
  go_wp2_with fail
  refine (eqBoxS_same _ _ _ _ _ _ _ xs _ H47.out.rd h7.rd (Nat.le_refl _) (Nat.le_refl _) HN.out).mono ?_
  rintro e w8 ⟨rfl, hb⟩
  have HB8 := Lib.hid (bl_trans HB7.out hb)
  have H58 := Lib.hid (H57.out.below hb)
  clear hb h7
  go_wp2_with fail
  refine (HI.out _ HB8.out).mono ?_
  rintro e w9 ⟨A9, rfl, h9, hb⟩
  have HB9 := Lib.hid (bl_trans HB8.out hb)
  have H59 := Lib.hid (H58.out.below hb)
  clear hb
  go_wp2_with fail
  refine (eqStringS_same _ _ _ _ _ _ _ cs _ H59.out.rd h9.rd HNN.out).mono ?_
  rintro e w10 ⟨rfl, mm, rfl⟩
  go_wp2
  go_ret
  exact ⟨rfl, bl_drewN HB9.out mm⟩
end Go.Proofs.Ytjeehkiebalbmaa
