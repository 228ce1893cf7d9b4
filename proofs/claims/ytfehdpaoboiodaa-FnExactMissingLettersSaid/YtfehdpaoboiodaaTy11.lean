/-
  Is the stock enough: contracts of both sides; the law's walk.
-/
import Derived.Test.YtfehdpaoboiodaaTy10
namespace Go.Proofs.Ytfehdpaoboiodaa
open Go.RowKit
set_option linter.unusedVariables false
attribute [local go_sem ↓] Go.wp_at_zero Go.wp_at_succ

def PairBB (x b : Bool) (w : World) (e : Ending) (w' : World) : Prop := e = .returned (.tuple #[.bool x, .bool b]) ∧ Below w.heap.size w w'
theorem pair_bb {x y b c : Bool} {w w' : World} (h : x = y) (h' : b = c) (hb : Below w.heap.size w w') : PairBB y c w (.returned (.tuple #[.bool x, .bool b])) w' := by subst h; subst h'; exact ⟨rfl, hb⟩
theorem biNeed_yes (A C : Option Addr) (n c k f : Nat) (xs : List Srt) (ls : List Int) (ws : List ByteArray) (N : List Int) (w : World) (hh : SW w A C n k xs ws) (hask : askB xs ls ws = true) (hN : needL xs ws = N) :
    Calls Try.prog 61 #[.slice A n c, .slice C k f] w (RetS N true w) := by
  obtain ⟨h1, h2, h3, h4, h5⟩ := ask_copy hask
  have h := biNeed_any A C n c k f xs ws w hh h1 h2
  rw [needR_yes h3, h3, hN] at h
  exact h
theorem needWith_yes (A B C : Option Addr) (n c m d k f : Nat) (xs : List Srt) (ls : List Int) (ws : List ByteArray) (N : List Int) (w : World) (hh : SC w A B C n m k xs ls ws) (hask : askB xs ls ws = true) (hN : needL xs ws = N) :
    Calls Try.prog 62 #[.slice A n c, .slice B m d, .slice C k f] w (RetS N true w) := by
  obtain ⟨h1, h2, h3, h4, h5⟩ := ask_copy hask
  have h := needWith_any A B C n c m d k f xs ls ws w hh
  rw [copyL_yes h4, hask, hN] at h
  exact h
theorem needWith_no (A B C : Option Addr) (n c m d k f : Nat) (xs : List Srt) (ls : List Int) (ws : List ByteArray) (w : World) (hh : SC w A B C n m k xs ls ws) (hask : askB xs ls ws = false) :
    ∃ L, Calls Try.prog 62 #[.slice A n c, .slice B m d, .slice C k f] w (RetS L false w) := by
  have h := needWith_any A B C n c m d k f xs ls ws w hh
  rw [hask] at h
  exact ⟨_, h⟩
theorem biAsked_is {v : Bool} (A B C : Option Addr) (n c m d k f : Nat) (xs : List Srt) (ls : List Int) (ws : List ByteArray) (w : World) (hh : SC w A B C n m k xs ls ws) (hask : askB xs ls ws = v) :
    Calls Try.prog 60 #[.slice A n c, .slice B m d, .slice C k f] w fun e w' => e = .returned (.bool (v)) ∧ Below w.heap.size w w' := by
  have h := biAsked_any A B C n c m d k f xs ls ws w hh
  rw [hask] at h
  exact h
/-! ### IsEnough -/
def leP (p : Int × Int) : Bool := decide (p.1 ≤ p.2)
def enB (xs : List Srt) (ls : List Int) (ws : List ByteArray) : Bool := ((needL xs ws).zip ls).all leP
def enR (xs : List Srt) (ls : List Int) (ws : List ByteArray) : Bool := askB xs ls ws && enB xs ls ws
theorem zip_at {N M : List Int} {i : Nat} {a b : Int} (h : N[i]? = some a) (h' : M[i]? = some b) : (N.zip M)[i]? = some (a, b) := by
  rw [List.getElem?_zip_eq_some]; exact ⟨h, h'⟩
set_option maxHeartbeats 1000000 in
theorem specEnough_any (A B C : Option Addr) (n c m d k f : Nat) (xs : List Srt) (ls : List Int) (ws : List ByteArray) (w : World) (hh : SC w A B C n m k xs ls ws) :
    Calls Try.prog 35 #[.slice A n c, .slice B m d, .slice C k f] w (PairBB (enR xs ls ws) (askB xs ls ws) w) := by
  rcases hask : askB xs ls ws with _ | _
  · have HA := Lib.hid (biAsked_is A B C n c m d k f xs ls ws w hh hask)
    have HE := Lib.hid (show enR xs ls ws = false by unfold enR; rw [hask]; rfl)
    clear hask hh
    go_enter Try.func35, Try.ntmps35
    go_wp2_with (go_at_call 60; refine HA.out.mono ?_; rintro e w' ⟨rfl, hb⟩)
    go_ret2
    exact pair_bb HE.out.symm rfl hb
  · have HA := Lib.hid (biAsked_is A B C n c m d k f xs ls ws w hh hask)
    have HER := Lib.hid (show enR xs ls ws = enB xs ls ws by unfold enR; rw [hask]; rfl)
    have HH := Lib.hid hh
    have HASK := Lib.hid hask
    obtain ⟨N, hNe⟩ : ∃ N, needL xs ws = N := ⟨_, rfl⟩
    have HNE := Lib.hid hNe
    obtain ⟨f1, f2, f3, f4, f5⟩ := ask_copy hask
    obtain ⟨f6, f7⟩ := cnt_in f5
    have hl := hh.1.1.1
    have hlm := hh.1.2.1.1
    have hlw := hh.2.2.1.1
    have hmn : m = n := by omega
    have hNl : N.length = n := by rw [← hNe, ← hl]; exact needTo_len xs ws _
    have hn32 := (font_len f1).2
    have hNR : inR N 640 := by
      obtain ⟨g1, g2⟩ := words_each f2
      intro v hv
      rw [← hNe] at hv
      have := needTo_bd (xs := xs) g1 ws.length v hv
      omega
    have HNR := Lib.hid hNR
    have HLS := Lib.hid f7
    have HFB := Lib.hid f1
    subst hmn
    clear f1 f2 f3 f4 f5 f6 f7 hNR hNe
    have HEB := Lib.hid (show enB xs ls ws = (N.zip ls).all leP by unfold enB; rw [HNE.out])
    have hz : (N.zip ls).length = m := by rw [List.length_zip]; omega
    clear hask hh
    go_enter Try.func35, Try.ntmps35
    go_wp2_with fail
    refine HA.out.mono ?_
    rintro e w1 ⟨rfl, hb1⟩
    have HC1 := Lib.hid (HH.out.below hb1)
    have HB1 := Lib.hid hb1
    clear hb1
    go_wp2_with fail
    refine (biNeed_yes _ _ _ _ _ _ xs ls ws N _ HC1.out.2 HASK.out HNE.out).mono ?_
    rintro e w2 ⟨A2, c2, rfl, hw2, hb2⟩
    have HB2 := Lib.hid (bl_trans HB1.out hb2)
    have hr1 := (HC1.out.below hb2).1.2.1
    have hr2 := hw2.rd
    have HW2 := Lib.hid hw2
    clear hb2 hw2
    go_wp2
    go_loop [25] (fun i => ∃ j : Nat, j ≤ m ∧ i = .int .i64 j ∧ Hid (((N.zip ls).take j).all leP = true)) (fun i => m - (intOf i).toNat)
    case atStart => exact ⟨0, Nat.zero_le _, rfl, rfl⟩
    case round =>
      obtain ⟨j, hj, rfl, HAL⟩ := hrel
      by_cases hlt : j < m
      · obtain ⟨b1, o1, x, rfl, _, hx, c1⟩ := hr1.atI hlt
        obtain ⟨b2, o2, v, rfl, _, hv, c2⟩ := hr2.atI (show j < N.length by omega)
        have HZ := Lib.hid (zip_at hv hx)
        clear hx hv
        by_cases hle : v ≤ x
        · have HL := Lib.hid (show leP (v, x) = true from decide_eq_true hle)
          have hg : ¬ x < v := by omega
          go_wp2
          go_round
          case rel => exact ⟨j + 1, by omega, by go_num, all_snoc HZ.out HAL.out HL.out⟩
          case measure => simp [intOf]; omega
        · have HL := Lib.hid (show leP (v, x) = false from decide_eq_false hle)
          have hg : x < v := by omega
          go_wp2
          go_ret2
          exact pair_bb (by rw [HER.out, HEB.out]; exact (all_no HZ.out HL.out).symm) rfl HB2.out
      · obtain rfl : j = m := by omega
        go_wp2
        go_ret2
        exact pair_bb (by rw [HER.out, HEB.out]; exact (all_end (by omega) HAL.out).symm) rfl HB2.out
set_option maxHeartbeats 1000000 in
theorem implEnough_any (A B C : Option Addr) (n c m d k f : Nat) (xs : List Srt) (ls : List Int) (ws : List ByteArray) (w : World) (hh : SC w A B C n m k xs ls ws) :
    Calls Try.prog 36 #[.slice A n c, .slice B m d, .slice C k f] w (PairBB (enR xs ls ws) (askB xs ls ws) w) := by
  rcases hask : askB xs ls ws with _ | _
  · obtain ⟨L, hA⟩ := needWith_no A B C n c m d k f xs ls ws w hh hask
    have HA := Lib.hid hA
    have HE := Lib.hid (show enR xs ls ws = false by unfold enR; rw [hask]; rfl)
    clear hask hh hA
    go_enter Try.func36, Try.ntmps36
    go_wp2_with fail
    refine HA.out.mono ?_
    rintro e w2 ⟨A2, c2, rfl, hw2, hb2⟩
    clear hw2
    go_wp2
    go_ret2
    exact pair_bb HE.out.symm rfl hb2
  · have HER := Lib.hid (show enR xs ls ws = enB xs ls ws by unfold enR; rw [hask]; rfl)
    have HH := Lib.hid hh
    have HASK := Lib.hid hask
    obtain ⟨N, hNe⟩ : ∃ N, needL xs ws = N := ⟨_, rfl⟩
    have HNE := Lib.hid hNe
    obtain ⟨f1, f2, f3, f4, f5⟩ := ask_copy hask
    obtain ⟨f6, f7⟩ := cnt_in f5
    have hl := hh.1.1.1
    have hlm := hh.1.2.1.1
    have hlw := hh.2.2.1.1
    have hmn : m = n := by omega
    have hNl : N.length = n := by rw [← hNe, ← hl]; exact needTo_len xs ws _
    have hn32 := (font_len f1).2
    have hNR : inR N 640 := by
      obtain ⟨g1, g2⟩ := words_each f2
      intro v hv
      rw [← hNe] at hv
      have := needTo_bd (xs := xs) g1 ws.length v hv
      omega
    have HNR := Lib.hid hNR
    have HLS := Lib.hid f7
    have HFB := Lib.hid f1
    subst hmn
    clear f1 f2 f3 f4 f5 f6 f7 hNR hNe
    have HA := Lib.hid (needWith_yes A B C m c m d k f xs ls ws N w hh hask HNE.out)
    have HEB := Lib.hid (show enB xs ls ws = (N.zip ls).all leP by unfold enB; rw [HNE.out])
    have hz : (N.zip ls).length = m := by rw [List.length_zip]; omega
    clear hask hh
    go_enter Try.func36, Try.ntmps36
    go_wp2_with fail
    refine HA.out.mono ?_
    rintro e w2 ⟨A2, c2, rfl, hw2, hb2⟩
    have hr1 := (HH.out.below hb2).1.2.1
    have hr2 := hw2.rd
    have HB2 := Lib.hid hb2
    have HW2 := Lib.hid hw2
    clear hb2 hw2
    go_wp2
    go_loop [23] (fun i => ∃ j : Nat, j ≤ m ∧ i = .int .i64 j ∧ Hid (((N.zip ls).take j).all leP = true)) (fun i => m - (intOf i).toNat)
    case atStart => exact ⟨0, Nat.zero_le _, rfl, rfl⟩
    case round =>
      obtain ⟨j, hj, rfl, HAL⟩ := hrel
      by_cases hlt : j < m
      · obtain ⟨b1, o1, x, rfl, _, hx, c1⟩ := hr1.atI hlt
        obtain ⟨b2, o2, v, rfl, _, hv, c2⟩ := hr2.atI (show j < N.length by omega)
        have HZ := Lib.hid (zip_at hv hx)
        clear hx hv
        by_cases hle : v ≤ x
        · have HL := Lib.hid (show leP (v, x) = true from decide_eq_true hle)
          have hg : ¬ x < v := by omega
          go_wp2
          go_round
          case rel => exact ⟨j + 1, by omega, by go_num, all_snoc HZ.out HAL.out HL.out⟩
          case measure => simp [intOf]; omega
        · have HL := Lib.hid (show leP (v, x) = false from decide_eq_false hle)
          have hg : x < v := by omega
          go_wp2
          go_ret2
          exact pair_bb (by rw [HER.out, HEB.out]; exact (all_no HZ.out HL.out).symm) rfl HB2.out
      · obtain rfl : j = m := by omega
        go_wp2
        go_ret2
        exact pair_bb (by rw [HER.out, HEB.out]; exact (all_end (by omega) HAL.out).symm) rfl HB2.out
set_option maxHeartbeats 4000000 in
theorem lawIsEnough (A : Option Addr) (n c : Nat) (xs : List Srt) (B : Option Addr) (m d : Nat) (ls : List Int) (C : Option Addr) (k f : Nat) (ws : List ByteArray) (w : World) (hr : Rd cSrt 2 w w.heap.size A n xs) (hn : n ≤ maxLen) (hok : ∀ x ∈ xs, okSrt x) (hrl : Rd cI 1 w w.heap.size B m ls) (hnn : m ≤ maxLen) (_ : ∀ x ∈ ls, I64 x) (hrs : Rd cS 1 w w.heap.size C k ws) (hkk : k ≤ maxLen) (hoks : ∀ x ∈ ws, x.size ≤ maxLen) : Calls Try.prog 9 #[.slice A n c, .slice B m d, .slice C k f] w fun e w' => e = .returned (.bool (true)) ∧ Below w.heap.size w w' := by
  have hn' := hn
  unfold maxLen at hn'
  have hnn' := hnn
  unfold maxLen at hnn'
  have HN := Lib.hid hn
  have HNN := Lib.hid hnn
  have HKK := Lib.hid hkk
  have HOK := Lib.hid hok
  have HOS := Lib.hid hoks
  have HS := Lib.hid (szSortS_any A n c _ xs 1048576 w hr (Nat.le_refl _) hn hok (by omega) (by omega))
  have HSS := Lib.hid (fun (l : Int) (W : World) (h : Below w.heap.size w W) h0 h1 => szStringS_any C k f _ ws l W (hrs.below h) hkk hoks h0 h1)
  clear hn hok hnn hkk hoks
  by_cases hbig : (1048576 : Int) < (m : Int)
  · go_enter Try.func9, Try.ntmps9
    go_wp2
    go_ret
    exact ⟨rfl, by repeat (first | (with_reducible exact Below.refl _ _) | (with_reducible assumption) | (with_reducible refine bl_alloc ?_ _) | (with_reducible refine bl_drew ?_) | (with_reducible refine bl_drewN ?_ _) | ((with_reducible refine bl_set ?_ ?hb _); (case hb => first | (simp; done) | omega | (simp; omega))) | (with_reducible refine bl_trans ?_ (by assumption)))⟩
  go_enter Try.func9, Try.ntmps9
  go_wp2_with fail
  refine HS.out.mono ?_
  rintro e w0 ⟨r, rfl, hsz, hb0⟩
  have HSZ := Lib.hid hsz
  have HB0 := Lib.hid hb0
  clear hsz hb0
  by_cases hneg : r < 0
  · go_wp2_with fail
    go_ret
    exact ⟨rfl, HB0.out⟩
  have hn2 : n ≤ 1048576 := by
    rcases HSZ.out with h | h <;> omega
  have hr1 : r ≤ 1048576 := by
    rcases HSZ.out with h | h <;> omega
  go_wp2_with fail
  refine (HSS.out r _ HB0.out (by omega) hr1).mono ?_
  rintro e w00 ⟨r2, rfl, hsz2, rfl⟩
  have HSZ2 := Lib.hid hsz2
  clear hsz2
  by_cases hneg2 : r2 < 0
  · go_wp2_with fail
    go_ret
    exact ⟨rfl, HB0.out⟩
  have hk2 : k ≤ 1048576 := by
    rcases HSZ2.out with h | h <;> omega
  have hn3 : m ≤ 1048576 := by omega
  have HT := Lib.hid (fun (W : World) (h : Below w.heap.size w W) => toSrtS_cap A n c _ xs W (hr.below h) h.size hn2)
  have HI := Lib.hid (fun (W : World) (h : Below w.heap.size w W) => toIntS_cap B m d _ ls W (hrl.below h) h.size hn3)
  have HG := Lib.hid (fun (W : World) (h : Below w.heap.size w W) => toStringS_cap C k f _ ws W (hrs.below h) h.size hk2)
  go_wp2_with fail
  refine (HT.out _ HB0.out).mono ?_
  rintro e w1 ⟨A1, rfl, h1, hb⟩
  have HB1 := Lib.hid (bl_trans HB0.out hb)
  clear hb
  go_wp2_with fail
  refine (HI.out _ HB1.out).mono ?_
  rintro e w2 ⟨A2, rfl, h2, hb⟩
  have HB2 := Lib.hid (bl_trans HB1.out hb)
  have h12 := h1.below hb
  clear hb h1
  go_wp2_with fail
  refine (HG.out _ HB2.out).mono ?_
  rintro e w3 ⟨A3, rfl, h3, hb⟩
  have HB3 := Lib.hid (bl_trans HB2.out hb)
  have HO3 := Lib.hid (show SC w3 A1 A2 A3 n m k xs ls ws from ⟨⟨(h12.below hb).rd, (h2.below hb).rd, hn2, hn3, HOK.out⟩, ⟨(h12.below hb).rd, h3.rd, hn2, hk2, HOK.out, HOS.out⟩⟩)
  clear hb h12 h2 h3
  go_wp2_with fail
  refine (specEnough_any _ _ _ _ _ _ _ _ _ xs ls ws _ HO3.out).mono ?_
  rintro e w4 ⟨rfl, hb⟩
  have HB4 := Lib.hid (bl_trans HB3.out hb)
  clear hb
  go_wp2_with fail
  refine (HT.out _ HB4.out).mono ?_
  rintro e w5 ⟨A5, rfl, h5, hb⟩
  have HB5 := Lib.hid (bl_trans HB4.out hb)
  clear hb
  go_wp2_with fail
  refine (HI.out _ HB5.out).mono ?_
  rintro e w6 ⟨A6, rfl, h6, hb⟩
  have HB6 := Lib.hid (bl_trans HB5.out hb)
  have h56 := h5.below hb
  clear hb h5
  go_wp2_with fail
  refine (HG.out _ HB6.out).mono ?_
  rintro e w7 ⟨A7, rfl, h7, hb⟩
  have HB7 := Lib.hid (bl_trans HB6.out hb)
  have HO7 := Lib.hid (show SC w7 A5 A6 A7 n m k xs ls ws from ⟨⟨(h56.below hb).rd, (h6.below hb).rd, hn2, hn3, HOK.out⟩, ⟨(h56.below hb).rd, h7.rd, hn2, hk2, HOK.out, HOS.out⟩⟩)
  have H57 := Lib.hid (h56.below hb)
  have H67 := Lib.hid (h6.below hb)
  have H77 := Lib.hid h7
  clear hb h56 h6 h7
  go_wp2_with fail
  refine (implEnough_any _ _ _ _ _ _ _ _ _ xs ls ws _ HO7.out).mono ?_
  rintro e w8 ⟨rfl, hb⟩
  have HB8 := Lib.hid (bl_trans HB7.out hb)
  have H58 := Lib.hid (H57.out.below hb)
  have H68 := Lib.hid (H67.out.below hb)
  have H78 := Lib.hid (H77.out.below hb)
  clear hb H57 H67 H77
  go_wp2_with fail
  refine (HT.out _ HB8.out).mono ?_
  rintro e w9 ⟨A9, rfl, h9, hb⟩
  have HB9 := Lib.hid (bl_trans HB8.out hb)
  have H59 := Lib.hid (H58.out.below hb)
  have H69 := Lib.hid (H68.out.below hb)
  have H79 := Lib.hid (H78.out.below hb)
  clear hb H58 H68 H78
  go_wp2_with fail
  refine (eqSrtS_same _ _ _ _ _ _ _ xs _ H59.out.rd h9.rd (Nat.le_refl _) (Nat.le_refl _) HN.out).mono ?_
  rintro e w10 ⟨rfl, hb⟩
  have HB10 := Lib.hid (bl_trans HB9.out hb)
  have H6a := Lib.hid (H69.out.below hb)
  have H7a := Lib.hid (H79.out.below hb)
  clear hb h9 H59 H69 H79
  go_wp2_with fail
  refine (HI.out _ HB10.out).mono ?_
  rintro e w11 ⟨A11, rfl, h11, hb⟩
  have HB11 := Lib.hid (bl_trans HB10.out hb)
  have H6b := Lib.hid (H6a.out.below hb)
  have H7b := Lib.hid (H7a.out.below hb)
  clear hb H6a H7a
  go_wp2_with fail
  refine (eqIntS_any _ _ _ _ _ _ _ _ _ _ _ H6b.out.rd h11.rd HNN.out HNN.out).mono ?_
  rintro e w12 ⟨rfl, mm, rfl⟩
  have HB12 := Lib.hid (bl_drewN HB11.out mm)
  have H7c := Lib.hid (H7b.out.drewN mm)
  rw [eqL_same]
  clear h11 H6b H7b
  go_wp2_with fail
  refine (HG.out _ HB12.out).mono ?_
  rintro e w13 ⟨A13, rfl, h13, hb⟩
  have HB13 := Lib.hid (bl_trans HB12.out hb)
  have H7d := Lib.hid (H7c.out.below hb)
  clear hb H7c
  go_wp2_with fail
  refine (eqStringS_same _ _ _ _ _ _ _ ws _ H7d.out.rd h13.rd HKK.out).mono ?_
  rintro e w14 ⟨rfl, mm2, rfl⟩
  go_wp2
  go_ret
  exact ⟨rfl, bl_drewN HB13.out mm2⟩
end Go.Proofs.Ytfehdpaoboiodaa
