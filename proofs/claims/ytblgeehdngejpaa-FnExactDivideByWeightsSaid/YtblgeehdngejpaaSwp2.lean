/-
  The library's rotate_func, walked.
-/
import Derived.Test.YtblgeehdngejpaaSwp1
namespace Go.Proofs.Ytblgeehdngejpaa
open Go.RowKit Go.Lib Go.Sort Go.Shelf
set_option linter.unusedVariables false
variable {en : Int → Value}

/-- the places from a to b turned left by m - a -/
def RotR (a m b : Nat) (d d' : Array Int) : Prop := d'.size = d.size ∧ ∀ k, d'[k]! = if a ≤ k ∧ k < a + (b - m) then d[k + (m - a)]! else if a + (b - m) ≤ k ∧ k < b then d[k - (b - m)]! else d[k]!
theorem SwR.at_a {a b n k : Nat} {d d' : Array Int} (h : SwR a b n d d') (h1 : a ≤ k) (h2 : k < a + n) : d'[k]! = d[b + (k - a)]! := by rw [h.2 k, if_pos ⟨h1, h2⟩]
theorem SwR.at_b {a b n k : Nat} {d d' : Array Int} (h : SwR a b n d d') (h0 : a + n ≤ b) (h1 : b ≤ k) (h2 : k < b + n) : d'[k]! = d[a + (k - b)]! := by rw [h.2 k, if_neg (by omega), if_pos ⟨h1, h2⟩]
theorem SwR.at_o {a b n k : Nat} {d d' : Array Int} (h : SwR a b n d d') (h1 : k < a ∨ a + n ≤ k) (h2 : k < b ∨ b + n ≤ k) : d'[k]! = d[k]! := by rw [h.2 k, if_neg (by omega), if_neg (by omega)]
theorem RotR.lo {a m b k : Nat} {d d' : Array Int} (h : RotR a m b d d') (h1 : a ≤ k) (h2 : k < a + (b - m)) : d'[k]! = d[k + (m - a)]! := by rw [h.2 k, if_pos ⟨h1, h2⟩]
theorem RotR.hi {a m b k : Nat} {d d' : Array Int} (h : RotR a m b d d') (h1 : a + (b - m) ≤ k) (h2 : k < b) : d'[k]! = d[k - (b - m)]! := by rw [h.2 k, if_neg (by omega), if_pos ⟨h1, h2⟩]
theorem RotR.out {a m b k : Nat} {d d' : Array Int} (h : RotR a m b d d') (h0 : a + (b - m) ≤ b) (h1 : k < a ∨ b ≤ k) : d'[k]! = d[k]! := by rw [h.2 k, if_neg (by omega), if_neg (by omega)]
theorem ix {d : Array Int} {i j : Nat} (h : i = j) : d[i]! = d[j]! := by rw [h]
theorem rot_left {a m j : Nat} {c c' e : Array Int} (hj : a + j < m) (h : SwR a m j c c') (he : RotR (a + j) m (m + j) c' e) : RotR a m (m + j) c e := by
  refine ⟨he.1.trans h.1, fun k => ?_⟩
  by_cases h1 : a ≤ k ∧ k < a + (m + j - m)
  · rw [if_pos h1, he.out (by omega) (by omega), h.at_a (by omega) (by omega)]
    exact ix (by omega)
  · rw [if_neg h1]
    by_cases h2 : a + (m + j - m) ≤ k ∧ k < m + j
    · rw [if_pos h2]
      by_cases h3 : k < a + j + j
      · rw [he.lo (by omega) (by omega), h.at_b (by omega) (by omega) (by omega)]
        exact ix (by omega)
      · rw [he.hi (by omega) (by omega), h.at_o (by omega) (by omega)]
    · rw [if_neg h2, he.out (by omega) (by omega), h.at_o (by omega) (by omega)]
theorem rot_right {a m j i : Nat} {c c' e : Array Int} (ha : a + i = m) (hj : i < j) (h : SwR a (m + j - i) i c c') (he : RotR a m (m + (j - i)) c' e) : RotR a m (m + j) c e := by
  refine ⟨he.1.trans h.1, fun k => ?_⟩
  by_cases h1 : a ≤ k ∧ k < a + (m + j - m)
  · rw [if_pos h1]
    by_cases h3 : k < a + (j - i)
    · rw [he.lo (by omega) (by omega), h.at_o (by omega) (by omega)]
    · rw [he.hi (by omega) (by omega), h.at_a (by omega) (by omega)]
      exact ix (by omega)
  · rw [if_neg h1]
    by_cases h2 : a + (m + j - m) ≤ k ∧ k < m + j
    · rw [if_pos h2, he.out (by omega) (by omega), h.at_b (by omega) (by omega) (by omega)]
      exact ix (by omega)
    · rw [if_neg h2, he.out (by omega) (by omega), h.at_o (by omega) (by omega)]
theorem rot_end {a m i : Nat} {c c' : Array Int} (ha : a + i = m) (h : SwR a m i c c') : RotR a m (m + i) c c' := by
  refine ⟨h.1, fun k => ?_⟩
  by_cases h1 : a ≤ k ∧ k < a + (m + i - m)
  · rw [if_pos h1, h.at_a (by omega) (by omega)]
    exact ix (by omega)
  · rw [if_neg h1]
    by_cases h2 : a + (m + i - m) ≤ k ∧ k < m + i
    · rw [if_pos h2, h.at_b (by omega) (by omega) (by omega)]
      exact ix (by omega)
    · rw [if_neg h2, h.at_o (by omega) (by omega)]
set_option maxRecDepth 8000 in
set_option maxHeartbeats 2000000 in
theorem rotate_any (g : Nat) (lb : Array Value) (sf : Nat) (sb : Array Value) (blk off a m b size : Nat) (d : Array Int) (W : World) (hswap : SwapSwaps Try.prog sf sb en blk off size)
    (hH : Holds en W blk off d) (hblk : blk < W.heap.size) (hd : d.size = size) (ham : a < m) (hmb : m < b) (hb : b ≤ size) (hsz : size ≤ 1000) :
    Calls Try.prog 31 #[.agg #[.func (.func g) #[] lb, .func (.func sf) #[] sb], .int .i64 a, .int .i64 m, .int .i64 b] W fun e w' => e = .returned (.tuple #[]) ∧ ∃ d', SW en W blk off d' w' ∧ RotR a m b d d' := by
  obtain ⟨WB, hWB⟩ : ∃ WB, WB = W.alloc (boxO g lb sf sb) := ⟨_, rfl⟩
  have hSB : SW en W blk off d WB := by rw [hWB]; exact (SW.start hH).alloc _
  have hHB : Holds en WB blk off d := hSB.holds hblk hH rfl
  have hbB : blk < WB.heap.size := hSB.lt hblk
  have hgB : W.heap.size < WB.heap.size := by rw [hWB]; simp
  have b0 : WB.cell? ⟨W.heap.size, 0, none⟩ = some (.func (.func g) #[] lb) := by rw [hWB]; simp [boxO]
  have b1 : WB.cell? ⟨W.heap.size, 1, none⟩ = some (.func (.func sf) #[] sb) := by rw [hWB]; simp [boxO]
  have HSB := Lib.hid hSB
  have HHB := Lib.hid hHB
  have HSW := Lib.hid hswap
  have hne : W.heap.size ≠ blk := by omega
  have HWB := Lib.hid hWB
  clear hSB hHB hswap hH hWB
  go_enter Try.func31, Try.ntmps31
  go_wp2
  rw [show W.alloc (.cells #[.func (.func g) #[] lb, .func (.func sf) #[] sb] 44) = WB from HWB.out.symm]
  go_loopw [8, 9] (fun i j wr => ∃ (p q : Nat) (c : Array Int), 1 ≤ p ∧ 1 ≤ q ∧ a + p ≤ m ∧ m + q ≤ b ∧ i = .int .i64 p ∧ j = .int .i64 q ∧ c.size = size ∧ Hid (SW en WB blk off c wr) ∧ Hid (∀ e, RotR (m - p) m (m + q) c e → RotR a m b d e)) (fun i j _ => (intOf i).toNat + (intOf j).toNat)
  case atStart => exact ⟨m - a, b - m, d, by omega, by omega, by omega, by omega, by go_num, by go_num, hd, Lib.hid (SW.start HHB.out), Lib.hid (fun e h => by rw [show m - (m - a) = a by omega, show m + (b - m) = b by omega] at h; exact h)⟩
  case round =>
    obtain ⟨p, q, c, hp, hq, hpa, hqb, rfl, rfl, hc, HS, HR⟩ := hrel
    have k0 : wr.cell? ⟨W.heap.size, 0, none⟩ = some (.func (.func g) #[] lb) := (sw_cell HS.out hne hgB 0).trans b0
    have k1 : wr.cell? ⟨W.heap.size, 1, none⟩ = some (.func (.func sf) #[] sb) := (sw_cell HS.out hne hgB 1).trans b1
    have hbr : blk < wr.heap.size := HS.out.lt hbB
    have HHr := Lib.hid (HS.out.holds hbB HHB.out (by omega))
    by_cases hpq : p = q
    · subst hpq
      have HC := Lib.hid (swapRange_any g lb sf sb blk off (m - p) m p size c wr HSW.out HHr.out hbr hc (by omega) (by omega) hsz)
      rw [show (((m - p : Nat)) : Int) = (m : Int) - p by omega] at HC
      go_wp2_with fail
      refine HC.out.mono ?_
      rintro e w2 ⟨rfl, d2, hS2, hR2⟩
      have HS2 := Lib.hid hS2
      have HR2 := Lib.hid hR2
      clear hS2 hR2
      go_wp2
      go_end0
      exact ⟨rfl, d2, sw_trans HSB.out hblk (by rw [HR2.out.1, hc, hd]) (sw_trans HS.out hbB HR2.out.1 HS2.out), HR.out d2 (rot_end (by omega) HR2.out)⟩
    · by_cases hlt : q < p
      · have HC := Lib.hid (swapRange_any g lb sf sb blk off (m - p) m q size c wr HSW.out HHr.out hbr hc (by omega) (by omega) hsz)
        rw [show (((m - p : Nat)) : Int) = (m : Int) - p by omega] at HC
        have hpq2 : ¬ (p : Int) = q := by omega
        go_wp2_with fail
        refine HC.out.mono ?_
        rintro e w2 ⟨rfl, d2, hS2, hR2⟩
        have HS2 := Lib.hid (sw_trans HS.out hbB hR2.1 hS2)
        have HR2 := Lib.hid hR2
        have hd2 : d2.size = size := by rw [hR2.1, hc]
        clear hS2 hR2
        go_wp2
        go_roundw
        case rel => exact ⟨p - q, q, d2, by omega, hq, by omega, hqb, by go_num, rfl, hd2, HS2, Lib.hid (fun e h => HR.out e (rot_left (by omega) HR2.out (by rw [show m - p + q = m - (p - q) by omega]; exact h)))⟩
        case measure => simp [intOf]; omega
      · have HC := Lib.hid (swapRange_any g lb sf sb blk off (m - p) (m + q - p) p size c wr HSW.out HHr.out hbr hc (by omega) (by omega) hsz)
        rw [show (((m - p : Nat)) : Int) = (m : Int) - p by omega, show (((m + q - p : Nat)) : Int) = (m : Int) + q - p by omega] at HC
        have hpq2 : ¬ (p : Int) = q := by omega
        go_wp2_with fail
        refine HC.out.mono ?_
        rintro e w2 ⟨rfl, d2, hS2, hR2⟩
        have HS2 := Lib.hid (sw_trans HS.out hbB hR2.1 hS2)
        have HR2 := Lib.hid hR2
        have hd2 : d2.size = size := by rw [hR2.1, hc]
        clear hS2 hR2
        go_wp2
        go_roundw
        case rel => exact ⟨p, q - p, d2, hp, by omega, hpa, by omega, rfl, by go_num, hd2, HS2, Lib.hid (fun e h => HR.out e (rot_right (by omega) (by omega) HR2.out h))⟩
        case measure => simp [intOf]; omega
end Go.Proofs.Ytblgeehdngejpaa
