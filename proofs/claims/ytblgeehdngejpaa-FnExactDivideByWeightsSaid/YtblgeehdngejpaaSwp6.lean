/-
  The library's symMerge_func, walked: the whole.
-/
import Derived.Test.YtblgeehdngejpaaSwp5
namespace Go.Proofs.Ytblgeehdngejpaa
open Go.RowKit Go.Lib Go.Sort Go.Shelf
set_option linter.unusedVariables false
variable {en : Int → Value}

theorem Mg.sd_of {lt : Int → Int → Bool} {a s mid : Nat} {d : Array Int} (h : Mg lt a s mid d) (hh : s ≤ a ∨ mid ≤ s) (h1 : a ≤ s) (h2 : s ≤ mid) : Sd lt a mid d := by
  rcases hh with hh | hh
  · obtain rfl : a = s := by omega
    exact h.2.1
  · obtain rfl : s = mid := by omega
    exact h.1
theorem Mg.congr {lt : Int → Int → Bool} {a m b : Nat} {d d' : Array Int} (h : Mg lt a m b d) (ham : a ≤ m) (hmb : m ≤ b) (he : ∀ k, a ≤ k → k < b → d'[k]! = d[k]!) : Mg lt a m b d' := by
  refine ⟨fun i j h1 h2 h3 => ?_, fun i j h1 h2 h3 => ?_, fun i j h1 h2 h3 h4 => ?_⟩
  · rw [he i (by omega) (by omega), he j (by omega) (by omega)]; exact h.1 i j h1 h2 h3
  · rw [he i (by omega) (by omega), he j (by omega) (by omega)]; exact h.2.1 i j h1 h2 h3
  · rw [he i (by omega) (by omega), he j (by omega) (by omega)]; exact h.2.2 i j h1 h2 h3 h4
/-- the search's invariant -/
def Sch (lt : Int → Int → Bool) (lo hi n p q : Nat) (d : Array Int) : Prop := (∀ c, lo ≤ c → c < p → TT lt d[c]! d[n - 1 - c]! = true) ∧ ∀ c, q ≤ c → c < hi → TT lt d[n - 1 - c]! d[c]! = true
/-- where the search begins and ends -/
def Lim (a m b mid lo hi : Nat) : Prop := (mid < m ∧ lo + b = mid + m ∧ hi = mid) ∨ (m ≤ mid ∧ lo = a ∧ hi = m)
theorem fnd_of {lt : Int → Int → Bool} {a m b mid lo hi s : Nat} {d : Array Int} (hmid : (a + b) / 2 = mid) (ham : a < m) (hmb : m < b) (hL : Lim a m b mid lo hi) (h1 : lo ≤ s) (h2 : s ≤ hi) (h : Sch lt lo hi (mid + m) s s d) : Fnd lt a m b mid s d := by
  obtain ⟨hl, hr⟩ := h
  refine ⟨?_, ?_, ?_, ?_, ?_, fun q1 q2 => ?_, fun q1 q2 => ?_⟩
  · rcases hL with ⟨_, _, _⟩ | ⟨_, _, _⟩ <;> omega
  · rcases hL with ⟨_, _, _⟩ | ⟨_, _, _⟩ <;> omega
  · rcases hL with ⟨_, _, _⟩ | ⟨_, _, _⟩ <;> omega
  · rcases hL with ⟨_, _, _⟩ | ⟨_, _, _⟩ <;> omega
  · rcases hL with ⟨_, _, _⟩ | ⟨_, _, _⟩ <;> omega
  · have := hl (s - 1) (by rcases hL with ⟨_, _, _⟩ | ⟨_, _, _⟩ <;> omega) (by omega)
    rw [show mid + m - s = mid + m - 1 - (s - 1) by omega]; exact this
  · have := hr s (Nat.le_refl _) (by rcases hL with ⟨_, _, _⟩ | ⟨_, _, _⟩ <;> omega)
    rw [show mid + m - s - 1 = mid + m - 1 - s by omega]; exact this
theorem sch_yes {lt : Int → Int → Bool} (hO : SWO lt) {a m b mid lo hi p q h : Nat} {d : Array Int} (hmid : (a + b) / 2 = mid) (ham : a < m) (hmb : m < b) (hL : Lim a m b mid lo hi) (hM : Mg lt a m b d) (h1 : lo ≤ h) (h2 : h < hi) (hs : Sch lt lo hi (mid + m) p q d) (hl : lt d[mid + m - 1 - h]! d[h]! = true) : Sch lt lo hi (mid + m) p h d := by
  refine ⟨hs.1, fun c c1 c2 => ?_⟩
  have x := TT.of_lt hl
  have x2 := hM.1.ge hO (i := h) (j := c) (by rcases hL with ⟨_, _, _⟩ | ⟨_, _, _⟩ <;> omega) c1 (by rcases hL with ⟨_, _, _⟩ | ⟨_, _, _⟩ <;> omega) x
  exact hM.2.1.le hO (i := mid + m - 1 - c) (j := mid + m - 1 - h) (by rcases hL with ⟨_, _, _⟩ | ⟨_, _, _⟩ <;> omega) (by omega) (by rcases hL with ⟨_, _, _⟩ | ⟨_, _, _⟩ <;> omega) x2
theorem sch_no {lt : Int → Int → Bool} (hO : SWO lt) {a m b mid lo hi p q h : Nat} {d : Array Int} (hmid : (a + b) / 2 = mid) (ham : a < m) (hmb : m < b) (hL : Lim a m b mid lo hi) (hM : Mg lt a m b d) (h1 : lo ≤ h) (h2 : h < hi) (hs : Sch lt lo hi (mid + m) p q d) (hl : lt d[mid + m - 1 - h]! d[h]! = false) : Sch lt lo hi (mid + m) (h + 1) q d := by
  refine ⟨fun c c1 c2 => ?_, hs.2⟩
  have x := TT.of_not hl (hM.2.2 h (mid + m - 1 - h) (by rcases hL with ⟨_, _, _⟩ | ⟨_, _, _⟩ <;> omega) (by rcases hL with ⟨_, _, _⟩ | ⟨_, _, _⟩ <;> omega) (by rcases hL with ⟨_, _, _⟩ | ⟨_, _, _⟩ <;> omega) (by rcases hL with ⟨_, _, _⟩ | ⟨_, _, _⟩ <;> omega))
  have x2 := hM.1.le hO (i := c) (j := h) (by rcases hL with ⟨_, _, _⟩ | ⟨_, _, _⟩ <;> omega) (by omega) (by rcases hL with ⟨_, _, _⟩ | ⟨_, _, _⟩ <;> omega) x
  exact hM.2.1.ge hO (i := mid + m - 1 - h) (j := mid + m - 1 - c) (by rcases hL with ⟨_, _, _⟩ | ⟨_, _, _⟩ <;> omega) (by omega) (by rcases hL with ⟨_, _, _⟩ | ⟨_, _, _⟩ <;> omega) x2

/-- what a call of symMerge does -/
def SymM (en : Int → Value) (lt : Int → Int → Bool) (g : Nat) (lb : Array Value) (sf : Nat) (sb : Array Value) (blk off size N : Nat) : Prop := ∀ (a m b : Nat) (d : Array Int) (W : World), b - a ≤ N → LessReads Try.prog g lb en lt blk off size W → Holds en W blk off d → blk < W.heap.size → d.size = size → a < m → m < b → b ≤ size → Mg lt a m b d →
  Calls Try.prog 30 #[.agg #[.func (.func g) #[] lb, .func (.func sf) #[] sb], .int .i64 a, .int .i64 m, .int .i64 b] W fun e w' => e = .returned (.tuple #[]) ∧ ∃ d', SW en W blk off d' w' ∧ MgR lt a b d d'
set_option maxRecDepth 8000 in
set_option maxHeartbeats 8000000 in
theorem symMerge_step (lt : Int → Int → Bool) (hO : SWO lt) (g : Nat) (lb : Array Value) (sf : Nat) (sb : Array Value) (blk off size N : Nat) (eg : ∀ args w, (callFunc g args).run Try.prog w = .ok (.enter g args) w) (hswap : SwapSwaps Try.prog sf sb en blk off size) (hsz : size ≤ 1000) (ih : SymM en lt g lb sf sb blk off size N)
    (a m b : Nat) (d : Array Int) (W : World) (hN : b - a ≤ N + 1) (hless : LessReads Try.prog g lb en lt blk off size W) (hH : Holds en W blk off d) (hblk : blk < W.heap.size) (hd : d.size = size) (ham : a + 1 < m) (hmb : m + 1 < b) (hb : b ≤ size) (hM : Mg lt a m b d) :
    Calls Try.prog 30 #[.agg #[.func (.func g) #[] lb, .func (.func sf) #[] sb], .int .i64 a, .int .i64 m, .int .i64 b] W fun e w' => e = .returned (.tuple #[]) ∧ ∃ d', SW en W blk off d' w' ∧ MgR lt a b d d' := by

  have hm1 : ¬ (m : Int) - (a : Int) = 1 := by omega
  have hm1b : ((m : Int) - (a : Int) == 1) = false := by rw [beq_eq_false_iff_ne]; exact hm1
  have hm2 : ¬ (b : Int) - (m : Int) = 1 := by omega
  have hm2b : ((b : Int) - (m : Int) == 1) = false := by rw [beq_eq_false_iff_ne]; exact hm2
  have IH := Lib.hid ih
  obtain ⟨mid, hmid⟩ : ∃ mid, (a + b) / 2 = mid := ⟨_, rfl⟩
  have HMID := Lib.hid hmid
  have hmz : ((a : Int) + (b : Int)) / 2 = (mid : Int) := by omega
  have hma : a < mid := by omega
  have hmb2 : mid < b := by omega
  have hma2 : 2 * mid ≤ a + b := by omega
  have hma3 : a + b ≤ 2 * mid + 1 := by omega
  obtain ⟨lo, hi, hL⟩ : ∃ lo hi, Lim a m b mid lo hi := by
    by_cases h : mid < m
    · exact ⟨mid + m - b, mid, .inl ⟨h, by omega, rfl⟩⟩
    · exact ⟨a, m, .inr ⟨by omega, rfl, rfl⟩⟩
  have HL := Lib.hid hL
  obtain ⟨WB, hWB⟩ : ∃ WB, WB = W.alloc (boxO g lb sf sb) := ⟨_, rfl⟩
  have hSB : SW en W blk off d WB := by rw [hWB]; exact (SW.start hH).alloc _
  have hHB : Holds en WB blk off d := hSB.holds hblk hH rfl
  have hLB : LessReads Try.prog g lb en lt blk off size WB := hSB.lessReads hless hblk hd
  have hbB : blk < WB.heap.size := hSB.lt hblk
  have hgB : W.heap.size < WB.heap.size := by rw [hWB]; simp
  have b0 : WB.cell? ⟨W.heap.size, 0, none⟩ = some (.func (.func g) #[] lb) := by rw [hWB]; simp [boxO]
  have b1 : WB.cell? ⟨W.heap.size, 1, none⟩ = some (.func (.func sf) #[] sb) := by rw [hWB]; simp [boxO]
  have HSB := Lib.hid hSB
  have HHB := Lib.hid hHB
  have HSW := Lib.hid hswap
  have HLB := Lib.hid hLB
  have HM := Lib.hid hM
  have hne : W.heap.size ≠ blk := by omega
  have HWB := Lib.hid hWB
  clear hSB hHB hLB hswap hless hM hH hWB ih hmid
  rcases hL with ⟨hL1, hL2, hL3⟩ | ⟨hL1, hL2, hL3⟩
  · go_enter Try.func30, Try.ntmps30
    go_wp2
    rw [show W.alloc (.cells #[.func (.func g) #[] lb, .func (.func sf) #[] sb] 44) = WB from HWB.out.symm]
    have hH1 : hi ≤ mid := by omega
    have hH2 : mid ≤ hi := by omega
    have hL4 : lo + b ≤ mid + m := by omega
    have hL5 : mid + m ≤ lo + b := by omega
    have hLz : (mid : Int) < m := by omega
    clear hL2 hL3
    go_loopw [18, 19] (fun i j wr => ∃ (p q : Nat), lo ≤ p ∧ p ≤ q ∧ q ≤ hi ∧ i = .int .i64 p ∧ j = .int .i64 q ∧ Hid (SW en WB blk off d wr) ∧ Hid (Sch lt lo hi (mid + m) p q d)) (fun i j _ => (intOf j).toNat - (intOf i).toNat)
    case atStart => exact ⟨lo, hi, Nat.le_refl _, by omega, Nat.le_refl _, by go_num, by go_num, Lib.hid (SW.start HHB.out), Lib.hid ⟨fun k h1 h2 => absurd h2 (by omega), fun k h1 h2 => absurd h2 (by omega)⟩⟩
    case round =>
      obtain ⟨p, q, hp, hpq, hq, rfl, rfl, HS, HI⟩ := hrel
      have k0 : wr.cell? ⟨W.heap.size, 0, none⟩ = some (.func (.func g) #[] lb) := (sw_cell HS.out hne hgB 0).trans b0
      have k1 : wr.cell? ⟨W.heap.size, 1, none⟩ = some (.func (.func sf) #[] sb) := (sw_cell HS.out hne hgB 1).trans b1
      by_cases hlt : p < q
      · obtain ⟨h, hh⟩ : ∃ h, (p + q) / 2 = h := ⟨_, rfl⟩
        have hh1 : p ≤ h := by omega
        have hh2 : h < q := by omega
        have hl := HS.out.less HLB.out hd (mid + m - 1 - h) h (by omega) (by omega)
        rw [show (((mid + m - 1 - h : Nat)) : Int) = (mid : Int) + m - 1 - h by omega] at hl
        have hhz : ((p : Int) + q) / 2 = h := by omega
        rcases hlv : lt d[mid + m - 1 - h]! d[h]! with _ | _
        · have HI2 := Lib.hid (sch_no hO HMID.out (by omega) (by omega) HL.out HM.out (by omega) (by omega) HI.out hlv)
          rw [hlv] at hl
          clear hlv hh
          go_wp2_with fail
          refine hl.mono ?_
          rintro e w2 ⟨rfl, nq, rfl⟩
          have HS2 := Lib.hid (HS.out.drewN nq)
          go_wp2
          go_roundw
          case rel => exact ⟨h + 1, q, by omega, by omega, hq, by go_num, rfl, HS2, HI2⟩
          case measure => simp [intOf]; omega
        · have HI2 := Lib.hid (sch_yes hO HMID.out (by omega) (by omega) HL.out HM.out (by omega) (by omega) HI.out hlv)
          rw [hlv] at hl
          clear hlv hh
          go_wp2_with fail
          refine hl.mono ?_
          rintro e w2 ⟨rfl, nq, rfl⟩
          have HS2 := Lib.hid (HS.out.drewN nq)
          go_wp2
          go_roundw
          case rel => exact ⟨p, h, hp, by omega, by omega, rfl, by go_num, HS2, HI2⟩
          case measure => simp [intOf]; omega
      · obtain rfl : p = q := by omega
        have HF := Lib.hid (fnd_of HMID.out (by omega) (by omega) HL.out hp hq HI.out)
        clear hpq hlt
        have hr1 : p < m := by omega
        by_cases hr2 : p < mid
        · by_cases ha : a < p
          · by_cases hb3 : mid + m - p < b
            · skip
              have HC := Lib.hid (rotate_any g lb sf sb blk off p m (mid + m - p) size d wr HSW.out (HS.out.holds hbB HHB.out rfl) (HS.out.lt hbB) hd (by omega) (by omega) (by omega) hsz)
              rw [show (((mid + m - p : Nat)) : Int) = (mid : Int) + m - p by omega] at HC
              go_wp2_with fail
              refine HC.out.mono ?_
              rintro e w2 ⟨rfl, d2, hS2, hR2⟩
              have HS2 := Lib.hid (sw_trans HS.out hbB hR2.1 hS2)
              have hd2 : d2.size = size := by rw [hR2.1, hd]
              have HR2 := Lib.hid hR2
              clear hS2 hR2
              have y0 : w2.cell? ⟨W.heap.size, 0, none⟩ = some (.func (.func g) #[] lb) := (sw_cell HS2.out hne hgB 0).trans b0
              have y1 : w2.cell? ⟨W.heap.size, 1, none⟩ = some (.func (.func sf) #[] sb) := (sw_cell HS2.out hne hgB 1).trans b1
              have HSP := Lib.hid (merge_split hO HM.out HF.out HR2.out)
              have HA := Lib.hid (IH.out a p mid d2 w2 (by omega) (HS2.out.lessReads HLB.out hbB hd2) (HS2.out.holds hbB HHB.out (by omega)) (HS2.out.lt hbB) hd2 (by omega) (by omega) (by omega) HSP.out.1)
              go_wp2_with fail
              refine HA.out.mono ?_
              rintro e w3 ⟨rfl, d3, hS3, hR3⟩
              have HS3 := Lib.hid (sw_trans HS2.out hbB hR3.1 hS3)
              have hd3 : d3.size = size := by rw [hR3.1, hd2]
              have HR3 := Lib.hid hR3
              clear hS3 hR3
              have u0 : w3.cell? ⟨W.heap.size, 0, none⟩ = some (.func (.func g) #[] lb) := (sw_cell HS3.out hne hgB 0).trans b0
              have u1 : w3.cell? ⟨W.heap.size, 1, none⟩ = some (.func (.func sf) #[] sb) := (sw_cell HS3.out hne hgB 1).trans b1
              have HMB := Lib.hid (HSP.out.2.1.congr (d' := d3) (by omega) (by omega) (fun k h1 h2 => HR3.out.2.1 k (by omega)))
              have HB := Lib.hid (IH.out mid (mid + m - p) b d3 w3 (by omega) (HS3.out.lessReads HLB.out hbB hd3) (HS3.out.holds hbB HHB.out (by omega)) (HS3.out.lt hbB) hd3 (by omega) (by omega) (by omega) HMB.out)
              rw [show (((mid + m - p : Nat)) : Int) = (mid : Int) + m - p by omega] at HB
              go_wp2_with fail
              refine HB.out.mono ?_
              rintro e w4 ⟨rfl, d4, hS4, hR4⟩
              have HS4 := Lib.hid (sw_trans HS3.out hbB hR4.1 hS4)
              have hd4 : d4.size = size := by rw [hR4.1, hd3]
              have HR4 := Lib.hid hR4
              clear hS4 hR4
              have HE := Lib.hid (merge_join hO HR2.out.1 (by omega) (by omega) HSP.out.2.2.1 HSP.out.2.2.2.1 HSP.out.2.2.2.2 HR3.out HR4.out)
              go_wp2
              (first | go_end0 | refine bodyPost_ret (results_none rfl _ _ _) rfl ?_)
              exact ⟨rfl, d4, sw_trans HSB.out hblk (by omega) HS4.out, HE.out⟩
            · skip
              have HC := Lib.hid (rotate_any g lb sf sb blk off p m (mid + m - p) size d wr HSW.out (HS.out.holds hbB HHB.out rfl) (HS.out.lt hbB) hd (by omega) (by omega) (by omega) hsz)
              rw [show (((mid + m - p : Nat)) : Int) = (mid : Int) + m - p by omega] at HC
              go_wp2_with fail
              refine HC.out.mono ?_
              rintro e w2 ⟨rfl, d2, hS2, hR2⟩
              have HS2 := Lib.hid (sw_trans HS.out hbB hR2.1 hS2)
              have hd2 : d2.size = size := by rw [hR2.1, hd]
              have HR2 := Lib.hid hR2
              clear hS2 hR2
              have y0 : w2.cell? ⟨W.heap.size, 0, none⟩ = some (.func (.func g) #[] lb) := (sw_cell HS2.out hne hgB 0).trans b0
              have y1 : w2.cell? ⟨W.heap.size, 1, none⟩ = some (.func (.func sf) #[] sb) := (sw_cell HS2.out hne hgB 1).trans b1
              have HSP := Lib.hid (merge_split hO HM.out HF.out HR2.out)
              have HA := Lib.hid (IH.out a p mid d2 w2 (by omega) (HS2.out.lessReads HLB.out hbB hd2) (HS2.out.holds hbB HHB.out (by omega)) (HS2.out.lt hbB) hd2 (by omega) (by omega) (by omega) HSP.out.1)
              go_wp2_with fail
              refine HA.out.mono ?_
              rintro e w3 ⟨rfl, d3, hS3, hR3⟩
              have HS3 := Lib.hid (sw_trans HS2.out hbB hR3.1 hS3)
              have hd3 : d3.size = size := by rw [hR3.1, hd2]
              have HR3 := Lib.hid hR3
              clear hS3 hR3
              have u0 : w3.cell? ⟨W.heap.size, 0, none⟩ = some (.func (.func g) #[] lb) := (sw_cell HS3.out hne hgB 0).trans b0
              have u1 : w3.cell? ⟨W.heap.size, 1, none⟩ = some (.func (.func sf) #[] sb) := (sw_cell HS3.out hne hgB 1).trans b1
              have HMB := Lib.hid (HSP.out.2.1.congr (d' := d3) (by omega) (by omega) (fun k h1 h2 => HR3.out.2.1 k (by omega)))
              have HR4 := Lib.hid (MgR.refl (HMB.out.sd_of (by omega) (by omega) (by omega)))
              have HE := Lib.hid (merge_join hO HR2.out.1 (by omega) (by omega) HSP.out.2.2.1 HSP.out.2.2.2.1 HSP.out.2.2.2.2 HR3.out HR4.out)
              go_wp2
              (first | go_end0 | refine bodyPost_ret (results_none rfl _ _ _) rfl ?_)
              exact ⟨rfl, d3, sw_trans HSB.out hblk (by omega) HS3.out, HE.out⟩
          · by_cases hb3 : mid + m - p < b
            · exfalso; omega
            · skip
              have HC := Lib.hid (rotate_any g lb sf sb blk off p m (mid + m - p) size d wr HSW.out (HS.out.holds hbB HHB.out rfl) (HS.out.lt hbB) hd (by omega) (by omega) (by omega) hsz)
              rw [show (((mid + m - p : Nat)) : Int) = (mid : Int) + m - p by omega] at HC
              go_wp2_with fail
              refine HC.out.mono ?_
              rintro e w2 ⟨rfl, d2, hS2, hR2⟩
              have HS2 := Lib.hid (sw_trans HS.out hbB hR2.1 hS2)
              have hd2 : d2.size = size := by rw [hR2.1, hd]
              have HR2 := Lib.hid hR2
              clear hS2 hR2
              have y0 : w2.cell? ⟨W.heap.size, 0, none⟩ = some (.func (.func g) #[] lb) := (sw_cell HS2.out hne hgB 0).trans b0
              have y1 : w2.cell? ⟨W.heap.size, 1, none⟩ = some (.func (.func sf) #[] sb) := (sw_cell HS2.out hne hgB 1).trans b1
              have HSP := Lib.hid (merge_split hO HM.out HF.out HR2.out)
              have HR3 := Lib.hid (MgR.refl (HSP.out.1.sd_of (by omega) (by omega) (by omega)))
              have HMB := Lib.hid (HSP.out.2.1.congr (d' := d2) (by omega) (by omega) (fun k h1 h2 => HR3.out.2.1 k (by omega)))
              have HR4 := Lib.hid (MgR.refl (HMB.out.sd_of (by omega) (by omega) (by omega)))
              have HE := Lib.hid (merge_join hO HR2.out.1 (by omega) (by omega) HSP.out.2.2.1 HSP.out.2.2.2.1 HSP.out.2.2.2.2 HR3.out HR4.out)
              go_wp2
              (first | go_end0 | refine bodyPost_ret (results_none rfl _ _ _) rfl ?_)
              exact ⟨rfl, d2, sw_trans HSB.out hblk (by omega) HS2.out, HE.out⟩
        · skip
          have HR2 := Lib.hid (RotR.same (s := p) (m := m) (e := mid + m - p) d (by omega) (by omega) (by omega))
          have HSP := Lib.hid (merge_split hO HM.out HF.out HR2.out)
          have HR3 := Lib.hid (MgR.refl (HSP.out.1.sd_of (by omega) (by omega) (by omega)))
          have HMB := Lib.hid (HSP.out.2.1.congr (d' := d) (by omega) (by omega) (fun k h1 h2 => HR3.out.2.1 k (by omega)))
          have HB := Lib.hid (IH.out mid (mid + m - p) b d wr (by omega) (HS.out.lessReads HLB.out hbB hd) (HS.out.holds hbB HHB.out (by omega)) (HS.out.lt hbB) hd (by omega) (by omega) (by omega) HMB.out)
          rw [show (((mid + m - p : Nat)) : Int) = (mid : Int) + m - p by omega] at HB
          go_wp2_with fail
          refine HB.out.mono ?_
          rintro e w4 ⟨rfl, d4, hS4, hR4⟩
          have HS4 := Lib.hid (sw_trans HS.out hbB hR4.1 hS4)
          have hd4 : d4.size = size := by rw [hR4.1, hd]
          have HR4 := Lib.hid hR4
          clear hS4 hR4
          have HE := Lib.hid (merge_join hO HR2.out.1 (by omega) (by omega) HSP.out.2.2.1 (fun k _ => rfl) (fun k h1 h2 => ⟨k, h1, h2, rfl⟩) HR3.out HR4.out)
          go_wp2
          (first | go_end0 | refine bodyPost_ret (results_none rfl _ _ _) rfl ?_)
          exact ⟨rfl, d4, sw_trans HSB.out hblk (by omega) HS4.out, HE.out⟩
  · go_enter Try.func30, Try.ntmps30
    go_wp2
    rw [show W.alloc (.cells #[.func (.func g) #[] lb, .func (.func sf) #[] sb] 44) = WB from HWB.out.symm]
    have hH1 : hi ≤ m := by omega
    have hH2 : m ≤ hi := by omega
    have hL4 : lo ≤ a := by omega
    have hL5 : a ≤ lo := by omega
    have hLz : decide (mid < m) = false := decide_eq_false (by omega)
    clear hL2 hL3
    go_loopw [18, 19] (fun i j wr => ∃ (p q : Nat), lo ≤ p ∧ p ≤ q ∧ q ≤ hi ∧ i = .int .i64 p ∧ j = .int .i64 q ∧ Hid (SW en WB blk off d wr) ∧ Hid (Sch lt lo hi (mid + m) p q d)) (fun i j _ => (intOf j).toNat - (intOf i).toNat)
    case atStart => exact ⟨lo, hi, Nat.le_refl _, by omega, Nat.le_refl _, by go_num, by go_num, Lib.hid (SW.start HHB.out), Lib.hid ⟨fun k h1 h2 => absurd h2 (by omega), fun k h1 h2 => absurd h2 (by omega)⟩⟩
    case round =>
      obtain ⟨p, q, hp, hpq, hq, rfl, rfl, HS, HI⟩ := hrel
      have k0 : wr.cell? ⟨W.heap.size, 0, none⟩ = some (.func (.func g) #[] lb) := (sw_cell HS.out hne hgB 0).trans b0
      have k1 : wr.cell? ⟨W.heap.size, 1, none⟩ = some (.func (.func sf) #[] sb) := (sw_cell HS.out hne hgB 1).trans b1
      by_cases hlt : p < q
      · obtain ⟨h, hh⟩ : ∃ h, (p + q) / 2 = h := ⟨_, rfl⟩
        have hh1 : p ≤ h := by omega
        have hh2 : h < q := by omega
        have hl := HS.out.less HLB.out hd (mid + m - 1 - h) h (by omega) (by omega)
        rw [show (((mid + m - 1 - h : Nat)) : Int) = (mid : Int) + m - 1 - h by omega] at hl
        have hhz : ((p : Int) + q) / 2 = h := by omega
        rcases hlv : lt d[mid + m - 1 - h]! d[h]! with _ | _
        · have HI2 := Lib.hid (sch_no hO HMID.out (by omega) (by omega) HL.out HM.out (by omega) (by omega) HI.out hlv)
          rw [hlv] at hl
          clear hlv hh
          go_wp2_with fail
          refine hl.mono ?_
          rintro e w2 ⟨rfl, nq, rfl⟩
          have HS2 := Lib.hid (HS.out.drewN nq)
          go_wp2
          go_roundw
          case rel => (repeat apply Exists.intro); exact ⟨⟨h + 1, q, by omega, by omega, hq, by go_num, rfl, HS2, HI2⟩, by rw [decide_eq_false (show ¬ mid < m by omega), show ((h + 1 : Nat) : Int) = (h : Int) + 1 by omega]⟩
          case measure => simp [intOf]; omega
        · have HI2 := Lib.hid (sch_yes hO HMID.out (by omega) (by omega) HL.out HM.out (by omega) (by omega) HI.out hlv)
          rw [hlv] at hl
          clear hlv hh
          go_wp2_with fail
          refine hl.mono ?_
          rintro e w2 ⟨rfl, nq, rfl⟩
          have HS2 := Lib.hid (HS.out.drewN nq)
          go_wp2
          go_roundw
          case rel => (repeat apply Exists.intro); exact ⟨⟨p, h, hp, by omega, by omega, rfl, by go_num, HS2, HI2⟩, by rw [decide_eq_false (show ¬ mid < m by omega)]⟩
          case measure => simp [intOf]; omega
      · obtain rfl : p = q := by omega
        have HF := Lib.hid (fnd_of HMID.out (by omega) (by omega) HL.out hp hq HI.out)
        clear hpq hlt
        by_cases hr1 : p < m
        · by_cases hr2 : p < mid
          · by_cases ha : a < p
            · by_cases hb3 : mid + m - p < b
              · skip
                have HC := Lib.hid (rotate_any g lb sf sb blk off p m (mid + m - p) size d wr HSW.out (HS.out.holds hbB HHB.out rfl) (HS.out.lt hbB) hd (by omega) (by omega) (by omega) hsz)
                rw [show (((mid + m - p : Nat)) : Int) = (mid : Int) + m - p by omega] at HC
                go_wp2_with fail
                refine HC.out.mono ?_
                rintro e w2 ⟨rfl, d2, hS2, hR2⟩
                have HS2 := Lib.hid (sw_trans HS.out hbB hR2.1 hS2)
                have hd2 : d2.size = size := by rw [hR2.1, hd]
                have HR2 := Lib.hid hR2
                clear hS2 hR2
                have y0 : w2.cell? ⟨W.heap.size, 0, none⟩ = some (.func (.func g) #[] lb) := (sw_cell HS2.out hne hgB 0).trans b0
                have y1 : w2.cell? ⟨W.heap.size, 1, none⟩ = some (.func (.func sf) #[] sb) := (sw_cell HS2.out hne hgB 1).trans b1
                have HSP := Lib.hid (merge_split hO HM.out HF.out HR2.out)
                have HA := Lib.hid (IH.out a p mid d2 w2 (by omega) (HS2.out.lessReads HLB.out hbB hd2) (HS2.out.holds hbB HHB.out (by omega)) (HS2.out.lt hbB) hd2 (by omega) (by omega) (by omega) HSP.out.1)
                go_wp2_with fail
                refine HA.out.mono ?_
                rintro e w3 ⟨rfl, d3, hS3, hR3⟩
                have HS3 := Lib.hid (sw_trans HS2.out hbB hR3.1 hS3)
                have hd3 : d3.size = size := by rw [hR3.1, hd2]
                have HR3 := Lib.hid hR3
                clear hS3 hR3
                have u0 : w3.cell? ⟨W.heap.size, 0, none⟩ = some (.func (.func g) #[] lb) := (sw_cell HS3.out hne hgB 0).trans b0
                have u1 : w3.cell? ⟨W.heap.size, 1, none⟩ = some (.func (.func sf) #[] sb) := (sw_cell HS3.out hne hgB 1).trans b1
                have HMB := Lib.hid (HSP.out.2.1.congr (d' := d3) (by omega) (by omega) (fun k h1 h2 => HR3.out.2.1 k (by omega)))
                have HB := Lib.hid (IH.out mid (mid + m - p) b d3 w3 (by omega) (HS3.out.lessReads HLB.out hbB hd3) (HS3.out.holds hbB HHB.out (by omega)) (HS3.out.lt hbB) hd3 (by omega) (by omega) (by omega) HMB.out)
                rw [show (((mid + m - p : Nat)) : Int) = (mid : Int) + m - p by omega] at HB
                go_wp2_with fail
                refine HB.out.mono ?_
                rintro e w4 ⟨rfl, d4, hS4, hR4⟩
                have HS4 := Lib.hid (sw_trans HS3.out hbB hR4.1 hS4)
                have hd4 : d4.size = size := by rw [hR4.1, hd3]
                have HR4 := Lib.hid hR4
                clear hS4 hR4
                have HE := Lib.hid (merge_join hO HR2.out.1 (by omega) (by omega) HSP.out.2.2.1 HSP.out.2.2.2.1 HSP.out.2.2.2.2 HR3.out HR4.out)
                go_wp2
                (first | go_end0 | refine bodyPost_ret (results_none rfl _ _ _) rfl ?_)
                exact ⟨rfl, d4, sw_trans HSB.out hblk (by omega) HS4.out, HE.out⟩
              · exfalso; omega
            · by_cases hb3 : mid + m - p < b
              · skip
                have HC := Lib.hid (rotate_any g lb sf sb blk off p m (mid + m - p) size d wr HSW.out (HS.out.holds hbB HHB.out rfl) (HS.out.lt hbB) hd (by omega) (by omega) (by omega) hsz)
                rw [show (((mid + m - p : Nat)) : Int) = (mid : Int) + m - p by omega] at HC
                go_wp2_with fail
                refine HC.out.mono ?_
                rintro e w2 ⟨rfl, d2, hS2, hR2⟩
                have HS2 := Lib.hid (sw_trans HS.out hbB hR2.1 hS2)
                have hd2 : d2.size = size := by rw [hR2.1, hd]
                have HR2 := Lib.hid hR2
                clear hS2 hR2
                have y0 : w2.cell? ⟨W.heap.size, 0, none⟩ = some (.func (.func g) #[] lb) := (sw_cell HS2.out hne hgB 0).trans b0
                have y1 : w2.cell? ⟨W.heap.size, 1, none⟩ = some (.func (.func sf) #[] sb) := (sw_cell HS2.out hne hgB 1).trans b1
                have HSP := Lib.hid (merge_split hO HM.out HF.out HR2.out)
                have HR3 := Lib.hid (MgR.refl (HSP.out.1.sd_of (by omega) (by omega) (by omega)))
                have HMB := Lib.hid (HSP.out.2.1.congr (d' := d2) (by omega) (by omega) (fun k h1 h2 => HR3.out.2.1 k (by omega)))
                have HB := Lib.hid (IH.out mid (mid + m - p) b d2 w2 (by omega) (HS2.out.lessReads HLB.out hbB hd2) (HS2.out.holds hbB HHB.out (by omega)) (HS2.out.lt hbB) hd2 (by omega) (by omega) (by omega) HMB.out)
                rw [show (((mid + m - p : Nat)) : Int) = (mid : Int) + m - p by omega] at HB
                go_wp2_with fail
                refine HB.out.mono ?_
                rintro e w4 ⟨rfl, d4, hS4, hR4⟩
                have HS4 := Lib.hid (sw_trans HS2.out hbB hR4.1 hS4)
                have hd4 : d4.size = size := by rw [hR4.1, hd2]
                have HR4 := Lib.hid hR4
                clear hS4 hR4
                have HE := Lib.hid (merge_join hO HR2.out.1 (by omega) (by omega) HSP.out.2.2.1 HSP.out.2.2.2.1 HSP.out.2.2.2.2 HR3.out HR4.out)
                go_wp2
                (first | go_end0 | refine bodyPost_ret (results_none rfl _ _ _) rfl ?_)
                exact ⟨rfl, d4, sw_trans HSB.out hblk (by omega) HS4.out, HE.out⟩
              · skip
                have HC := Lib.hid (rotate_any g lb sf sb blk off p m (mid + m - p) size d wr HSW.out (HS.out.holds hbB HHB.out rfl) (HS.out.lt hbB) hd (by omega) (by omega) (by omega) hsz)
                rw [show (((mid + m - p : Nat)) : Int) = (mid : Int) + m - p by omega] at HC
                go_wp2_with fail
                refine HC.out.mono ?_
                rintro e w2 ⟨rfl, d2, hS2, hR2⟩
                have HS2 := Lib.hid (sw_trans HS.out hbB hR2.1 hS2)
                have hd2 : d2.size = size := by rw [hR2.1, hd]
                have HR2 := Lib.hid hR2
                clear hS2 hR2
                have y0 : w2.cell? ⟨W.heap.size, 0, none⟩ = some (.func (.func g) #[] lb) := (sw_cell HS2.out hne hgB 0).trans b0
                have y1 : w2.cell? ⟨W.heap.size, 1, none⟩ = some (.func (.func sf) #[] sb) := (sw_cell HS2.out hne hgB 1).trans b1
                have HSP := Lib.hid (merge_split hO HM.out HF.out HR2.out)
                have HR3 := Lib.hid (MgR.refl (HSP.out.1.sd_of (by omega) (by omega) (by omega)))
                have HMB := Lib.hid (HSP.out.2.1.congr (d' := d2) (by omega) (by omega) (fun k h1 h2 => HR3.out.2.1 k (by omega)))
                have HR4 := Lib.hid (MgR.refl (HMB.out.sd_of (by omega) (by omega) (by omega)))
                have HE := Lib.hid (merge_join hO HR2.out.1 (by omega) (by omega) HSP.out.2.2.1 HSP.out.2.2.2.1 HSP.out.2.2.2.2 HR3.out HR4.out)
                go_wp2
                (first | go_end0 | refine bodyPost_ret (results_none rfl _ _ _) rfl ?_)
                exact ⟨rfl, d2, sw_trans HSB.out hblk (by omega) HS2.out, HE.out⟩
          · exfalso; omega
        · by_cases hr2 : p < mid
          · skip
            have HR2 := Lib.hid (RotR.same (s := p) (m := m) (e := mid + m - p) d (by omega) (by omega) (by omega))
            have HSP := Lib.hid (merge_split hO HM.out HF.out HR2.out)
            have HA := Lib.hid (IH.out a p mid d wr (by omega) (HS.out.lessReads HLB.out hbB hd) (HS.out.holds hbB HHB.out (by omega)) (HS.out.lt hbB) hd (by omega) (by omega) (by omega) HSP.out.1)
            go_wp2_with fail
            refine HA.out.mono ?_
            rintro e w3 ⟨rfl, d3, hS3, hR3⟩
            have HS3 := Lib.hid (sw_trans HS.out hbB hR3.1 hS3)
            have hd3 : d3.size = size := by rw [hR3.1, hd]
            have HR3 := Lib.hid hR3
            clear hS3 hR3
            have u0 : w3.cell? ⟨W.heap.size, 0, none⟩ = some (.func (.func g) #[] lb) := (sw_cell HS3.out hne hgB 0).trans b0
            have u1 : w3.cell? ⟨W.heap.size, 1, none⟩ = some (.func (.func sf) #[] sb) := (sw_cell HS3.out hne hgB 1).trans b1
            have HMB := Lib.hid (HSP.out.2.1.congr (d' := d3) (by omega) (by omega) (fun k h1 h2 => HR3.out.2.1 k (by omega)))
            have HR4 := Lib.hid (MgR.refl (HMB.out.sd_of (by omega) (by omega) (by omega)))
            have HE := Lib.hid (merge_join hO HR2.out.1 (by omega) (by omega) HSP.out.2.2.1 (fun k _ => rfl) (fun k h1 h2 => ⟨k, h1, h2, rfl⟩) HR3.out HR4.out)
            go_wp2
            (first | go_end0 | refine bodyPost_ret (results_none rfl _ _ _) rfl ?_)
            exact ⟨rfl, d3, sw_trans HSB.out hblk (by omega) HS3.out, HE.out⟩
          · skip
            have HR2 := Lib.hid (RotR.same (s := p) (m := m) (e := mid + m - p) d (by omega) (by omega) (by omega))
            have HSP := Lib.hid (merge_split hO HM.out HF.out HR2.out)
            have HR3 := Lib.hid (MgR.refl (HSP.out.1.sd_of (by omega) (by omega) (by omega)))
            have HMB := Lib.hid (HSP.out.2.1.congr (d' := d) (by omega) (by omega) (fun k h1 h2 => HR3.out.2.1 k (by omega)))
            have HR4 := Lib.hid (MgR.refl (HMB.out.sd_of (by omega) (by omega) (by omega)))
            have HE := Lib.hid (merge_join hO HR2.out.1 (by omega) (by omega) HSP.out.2.2.1 (fun k _ => rfl) (fun k h1 h2 => ⟨k, h1, h2, rfl⟩) HR3.out HR4.out)
            go_wp2
            (first | go_end0 | refine bodyPost_ret (results_none rfl _ _ _) rfl ?_)
            exact ⟨rfl, d, sw_trans HSB.out hblk (by omega) HS.out, HE.out⟩
end Go.Proofs.Ytblgeehdngejpaa
