/-
  The library's symMerge_func, walked: one element on the right.
-/
import Derived.Test.YtblgeehdngejpaaSwp4
namespace Go.Proofs.Ytblgeehdngejpaa
open Go.RowKit Go.Lib Go.Sort Go.Shelf
set_option linter.unusedVariables false
variable {en : Int → Value}

set_option maxRecDepth 8000 in
set_option maxHeartbeats 4000000 in
theorem symMerge_last (lt : Int → Int → Bool) (hO : SWO lt) (g : Nat) (lb : Array Value) (sf : Nat) (sb : Array Value) (blk off size : Nat) (eg : ∀ args w, (callFunc g args).run Try.prog w = .ok (.enter g args) w) (hswap : SwapSwaps Try.prog sf sb en blk off size)
    (a m b : Nat) (d : Array Int) (W : World) (hless : LessReads Try.prog g lb en lt blk off size W) (hH : Holds en W blk off d) (hblk : blk < W.heap.size) (hd : d.size = size) (ham : a + 1 < m) (hmb : m + 1 = b) (hb : b ≤ size) (hsz : size ≤ 1000) (hM : Mg lt a m b d) :
    Calls Try.prog 30 #[.agg #[.func (.func g) #[] lb, .func (.func sf) #[] sb], .int .i64 a, .int .i64 m, .int .i64 b] W fun e w' => e = .returned (.tuple #[]) ∧ ∃ d', SW en W blk off d' w' ∧ MgR lt a b d d' := by
  have hm1 : ¬ (m : Int) - (a : Int) = 1 := by omega
  have hm1b : ((m : Int) - (a : Int) == 1) = false := by rw [beq_eq_false_iff_ne]; exact hm1
  have hm2 : (b : Int) - (m : Int) = 1 := by omega
  obtain ⟨WB, hWB⟩ : ∃ WB, WB = W.alloc (boxO g lb sf sb) := ⟨_, rfl⟩
  have hSB : SW en W blk off d WB := by rw [hWB]; exact (SW.start hH).alloc _
  have hHB : Holds en WB blk off d := hSB.holds hblk hH rfl
  have hLB : LessReads Try.prog g lb en lt blk off size WB := hSB.lessReads hless hblk hd
  have hbB : blk < WB.heap.size := hSB.lt hblk
  have hgB : W.heap.size < WB.heap.size := by rw [hWB]; simp
  have b0 : WB.cell? ⟨W.heap.size, 0, none⟩ = some (.func (.func g) #[] lb) := by rw [hWB]; simp [boxO]
  have b1 : WB.cell? ⟨W.heap.size, 1, none⟩ = some (.func (.func sf) #[] sb) := by rw [hWB]; simp [boxO]
  have HSB := Lib.hid hSB
  have HHB := Lib.hid hHB
  have HSW := Lib.hid hswap
  have HLB := Lib.hid hLB
  have HM := Lib.hid hM
  have hne : W.heap.size ≠ blk := by omega
  have HWB := Lib.hid hWB
  clear hSB hHB hLB hswap hless hM hH hWB hmb
  go_enter Try.func30, Try.ntmps30
  go_wp2
  rw [show W.alloc (.cells #[.func (.func g) #[] lb, .func (.func sf) #[] sb] 44) = WB from HWB.out.symm]
  go_loopw [12, 13] (fun i j wr => ∃ (p q : Nat), a ≤ p ∧ p ≤ q ∧ q ≤ m ∧ i = .int .i64 p ∧ j = .int .i64 q ∧ Hid (SW en WB blk off d wr) ∧ Hid ((∀ k, a ≤ k → k < p → TT lt d[k]! d[m]! = true) ∧ ∀ k, q ≤ k → k < m → TT lt d[m]! d[k]! = true)) (fun i j _ => (intOf j).toNat - (intOf i).toNat)
  case atStart => exact ⟨a, m, Nat.le_refl _, by omega, Nat.le_refl _, rfl, rfl, Lib.hid (SW.start HHB.out), Lib.hid ⟨fun k h1 h2 => absurd h2 (by omega), fun k h1 h2 => absurd h2 (by omega)⟩⟩
  case round =>
    obtain ⟨p, q, hp, hpq, hq, rfl, rfl, HS, HI⟩ := hrel
    have k0 : wr.cell? ⟨W.heap.size, 0, none⟩ = some (.func (.func g) #[] lb) := (sw_cell HS.out hne hgB 0).trans b0
    by_cases hlt : p < q
    · obtain ⟨h, hh⟩ : ∃ h, (p + q) / 2 = h := ⟨_, rfl⟩
      have hh1 : p ≤ h := by omega
      have hh2 : h < q := by omega
      have hl := HS.out.less HLB.out hd m h (by omega) (by omega)
      have hhz : ((p : Int) + q) / 2 = h := by omega
      rcases hlv : lt d[m]! d[h]! with _ | _
      · have HI2 := Lib.hid (show (∀ k, a ≤ k → k < h + 1 → TT lt d[k]! d[m]! = true) ∧ ∀ k, q ≤ k → k < m → TT lt d[m]! d[k]! = true from ⟨fun k h1 h2 => HM.out.1.le hO (j := h) h1 (by omega) (by omega) (TT.of_not hlv (HM.out.2.2 h m (by omega) (by omega) (Nat.le_refl _) (by omega))), HI.out.2⟩)
        rw [hlv] at hl
        clear hlv hh
        go_wp2_with fail
        refine hl.mono ?_
        rintro e w2 ⟨rfl, nq, rfl⟩
        have HS2 := Lib.hid (HS.out.drewN nq)
        go_wp2
        go_roundw
        case rel => exact ⟨h + 1, q, by omega, by omega, hq, by go_num, rfl, HS2, HI2⟩
        case measure => simp [intOf]; omega
      · have HI2 := Lib.hid (show (∀ k, a ≤ k → k < p → TT lt d[k]! d[m]! = true) ∧ ∀ k, h ≤ k → k < m → TT lt d[m]! d[k]! = true from ⟨HI.out.1, fun k h1 h2 => HM.out.1.ge hO (i := h) (by omega) h1 h2 (TT.of_lt hlv)⟩)
        rw [hlv] at hl
        clear hlv hh
        go_wp2_with fail
        refine hl.mono ?_
        rintro e w2 ⟨rfl, nq, rfl⟩
        have HS2 := Lib.hid (HS.out.drewN nq)
        go_wp2
        go_roundw
        case rel => exact ⟨p, h, hp, by omega, by omega, rfl, by go_num, HS2, HI2⟩
        case measure => simp [intOf]; omega
    · obtain rfl : p = q := by omega
      obtain ⟨wo, rfl⟩ : ∃ wo : World, wo = wr := ⟨_, rfl⟩
      clear k0
      go_wp2
      go_loopw [15] (fun i wr => ∃ (t : Nat) (c : Array Int), p ≤ t ∧ t ≤ m ∧ i = .int .i64 t ∧ Hid (SW en WB blk off c wr) ∧ Hid (ShL m t d c)) (fun i _ => (intOf i).toNat)
      case atStart => exact ⟨m, d, hq, Nat.le_refl _, rfl, HS, Lib.hid (ShL.zero m d)⟩
      case round =>
        obtain ⟨t, c, ht, htp, rfl, HS2, HR⟩ := hrel
        have k1 : wr.cell? ⟨W.heap.size, 1, none⟩ = some (.func (.func sf) #[] sb) := (sw_cell HS2.out hne hgB 1).trans b1
        by_cases hlt2 : p < t
        · have hs := HSW.out wr c (HS2.out.holds hbB HHB.out HR.out.1) (by rw [HR.out.1, hd]) t (t - 1) (by omega) (by omega)
          have HS3 := Lib.hid (HS2.out.swap hbB t (t - 1) (by rw [HR.out.1]; omega) (by rw [HR.out.1]; omega))
          have HR3 := Lib.hid (HR.out.succ (by omega) htp (by omega))
          rw [show (((t - 1 : Nat)) : Int) = (t : Int) - 1 by omega] at hs
          go_wp2
          go_roundw
          case rel => exact ⟨t - 1, _, by omega, by omega, by go_num, HS3, HR3⟩
          case measure => simp [intOf]; omega
        · obtain rfl : p = t := by omega
          have HE := Lib.hid (one_right hO HM.out.1 hp hq HI.out.1 HI.out.2 HR.out)
          have hbm : m + 1 = b := by omega
          rw [hbm] at HE
          clear hbm
          go_wp2
          (first | go_end0 | refine bodyPost_ret (results_none rfl _ _ _) rfl ?_)
          exact ⟨rfl, c, sw_trans HSB.out hblk HR.out.1 HS2.out, HE.out⟩
end Go.Proofs.Ytblgeehdngejpaa
