/-
  The need of copy on the implementation's side, and with a stock.
-/
import Derived.Test.YtfehdpaoboiodaaTy9
namespace Go.Proofs.Ytfehdpaoboiodaa
open Go.RowKit
set_option linter.unusedVariables false
attribute [local go_sem ↓] Go.wp_at_zero Go.wp_at_succ

theorem copyL_no {xs : List Srt} {ws : List ByteArray} (h : copyB xs ws = false) : copyL xs ws = [] := by simp [copyL, h]
theorem copyL_yes {xs : List Srt} {ws : List ByteArray} (h : copyB xs ws = true) : copyL xs ws = needL xs ws := by simp [copyL, h]
theorem copy_parts (xs : List Srt) (ws : List ByteArray) : fontB xs = false ∧ copyB xs ws = false ∨ fontB xs = true ∧ wordsB ws = false ∧ copyB xs ws = false ∨ fontB xs = true ∧ wordsB ws = true ∧ copyB xs ws = needB xs ws := by
  unfold copyB
  rcases fontB xs with _ | _ <;> rcases wordsB ws with _ | _ <;> simp
set_option maxHeartbeats 2000000 in
theorem countSorts_any (A A' : Option Addr) (n c n' c' : Nat) (xs : List Srt) (ws : List ByteArray) (w : World) (hh : SW w A A' n n' xs ws) :
    Calls Try.prog 75 #[.slice A n c, .slice A' n' c'] w (RetS (copyL xs ws) (copyB xs ws) w) := by
  obtain ⟨h1, h2, h3, h4, h5, h6⟩ := hh
  have hF := implIsFont_any A n c _ xs w h1 (Nat.le_refl _) h3 h5
  have hl := h1.1
  have hl' := h2.1
  have h4m : n' ≤ maxLen := by unfold maxLen; omega
  have H6 := Lib.hid h6
  have H4M := Lib.hid h4m
  clear h5 h6 h4m
  rcases copy_parts xs ws with ⟨p1, p2⟩ | ⟨p1, p2, p3⟩ | ⟨hf, hw, hcb⟩
  · rw [p1] at hF
    have HF := Lib.hid hF
    have HC := Lib.hid p2
    clear hF p1 p2
    go_enter Try.func75, Try.ntmps75
    go_wp2_with (go_at_call 20; refine HF.out.mono ?_; rintro e w' ⟨rfl, hb⟩)
    go_ret2
    rw [copyL_no HC.out, HC.out]
    exact rets_nil rfl (bl_trans hb (by repeat (first | (with_reducible exact Below.refl _ _) | (with_reducible assumption) | (with_reducible refine bl_alloc ?_ _) | (with_reducible refine bl_drew ?_) | (with_reducible refine bl_drewN ?_ _) | ((with_reducible refine bl_set ?_ ?hb _); (case hb => first | (simp; done) | omega | (simp; omega))) | (with_reducible refine bl_trans ?_ (by assumption))))) _ _
  · rw [p1] at hF
    have HF := Lib.hid hF
    have HC := Lib.hid p3
    have HP := Lib.hid p2
    clear hF p1 p2 p3
    go_enter Try.func75, Try.ntmps75
    go_wp2_with (first | (go_at_call 20; refine HF.out.mono ?_; rintro e w' ⟨rfl, hb⟩) | (go_at_call 58; refine (areWords_any _ _ _ _ ws _ ((h2.below hb).more hb.size) H4M.out H6.out).mono ?_; rw [HP.out]; rintro e w'' ⟨rfl, rfl⟩))
    go_ret2
    rw [copyL_no HC.out, HC.out]
    exact rets_nil rfl (bl_trans hb (by repeat (first | (with_reducible exact Below.refl _ _) | (with_reducible assumption) | (with_reducible refine bl_alloc ?_ _) | (with_reducible refine bl_drew ?_) | (with_reducible refine bl_drewN ?_ _) | ((with_reducible refine bl_set ?_ ?hb _); (case hb => first | (simp; done) | omega | (simp; omega))) | (with_reducible refine bl_trans ?_ (by assumption))))) _ _
  rw [hf] at hF
  have HF := Lib.hid hF
  have HW := Lib.hid hw
  have HCB := Lib.hid hcb
  obtain ⟨hwe, hwl⟩ := words_each hw
  have hn32 := (font_len hf).2
  have HX := Lib.hid (font_all hf)
  have HWE := Lib.hid hwe
  have HNL := Lib.hid (needTo_len xs ws)
  have HNB := Lib.hid (needTo_bd (xs := xs) hwe)
  clear hf hw hwe hF hcb
  obtain ⟨i0, hi0, hi1, hi2, hi3⟩ := info_parts infoI
  go_enter Try.func75, Try.ntmps75
  go_wp2_with fail
  refine HF.out.mono ?_
  rintro e wv ⟨rfl, hb1⟩
  have hv1 := (h1.below hb1).more hb1.size
  have hv2 := (h2.below hb1).more hb1.size
  have HV1 := Lib.hid hb1
  clear hb1
  go_wp2_with (first | (go_at_call 58; refine (areWords_any _ _ _ _ ws _ hv2 H4M.out H6.out).mono ?_; rw [HW.out]; rintro e w'' ⟨rfl, hww⟩; obtain rfl := hww) | (at_make; refine wpList_make_full _ rfl _ _ 39 rfl wv.heap.size 3 i0 (.int .i64 0) 1 Try.underlying39 hi0 hi1 hi2 .i64 .i64 n n n rfl rfl rfl rfl (by rw [hi3]; omega) (by unfold maxLen; omega) (Nat.le_refl _) ?_; intro wm hown hg))
  have hbl : Below wv.heap.size wv wm := (Below.refl _ _).grown hg (Nat.le_refl _) (by simp)
  have hszm : wv.heap.size < wm.heap.size := (hown.lt _ rfl).2
  have hwr := own_made hown rfl
  have HW1 := Lib.hid hwr
  clear hown hg hwr
  go_loopw [27] (fun i wr => ∃ k : Nat, k ≤ n' ∧ i = .int .i64 k ∧ Below wv.heap.size wv wr ∧ wv.heap.size < wr.heap.size ∧ Wr wr wv.heap.size (some ⟨wv.heap.size, 0, none⟩) n (needTo xs ws k) ∧ Hid ((ws.take k).all (setB xs) = true)) (fun i _ => n' - (intOf i).toNat)
  case atStart => exact ⟨0, Nat.zero_le _, rfl, hbl, hszm, by show Wr wm _ _ n (List.replicate xs.length 0); rw [hl]; exact HW1.out, rfl⟩
  case round =>
    obtain ⟨k, hk, rfl, hb, hsz, hwr, HA⟩ := hrel
    by_cases hlt : k < n'
    · obtain ⟨wo, rfl⟩ : ∃ wo : World, wo = wr := ⟨_, rfl⟩
      obtain ⟨bs, offs, s, rfl, hbs, hs, c0⟩ := (hv2.below hb).atS hlt
      have hws := word_len (HWE.out s (List.mem_of_getElem? hs))
      have HS := Lib.hid hs
      have HB := Lib.hid hb
      have HN := Lib.hid hwr
      have hrr := hv1.below hb
      have HRR := Lib.hid hrr
      have hBs : wv.heap.size ≤ wo.heap.size := by omega
      obtain ⟨s1, s2⟩ := setL_in xs s
      have HS1 := Lib.hid s1
      have HNS := Lib.hid (needTo_snoc (xs := xs) hs)
      have hTS := sortsOf_any A n c _ xs s wo hrr hBs h3 (by omega) HX.out
      have HNK := Lib.hid (HNB.out k)
      clear hs hb hwr hrr s1
      rcases hv : setB xs s with _ | _
      · have HF := Lib.hid (show copyB xs ws = false by rw [HCB.out]; exact all_no HS.out hv)
        rw [hv] at hTS
        have HTS := Lib.hid hTS
        clear hTS hv
        go_wp2_with fail
        refine HTS.out.mono ?_
        rintro e w2 ⟨A2, c2, rfl, hw2, hb2⟩
        clear hw2
        go_wp2
        go_ret2
        rw [copyL_no HF.out, HF.out]
        exact rets_nil rfl (bl_trans HV1.out (bl_trans HB.out (bl_trans hb2 (by repeat (first | (with_reducible exact Below.refl _ _) | (with_reducible assumption) | (with_reducible refine bl_alloc ?_ _) | (with_reducible refine bl_drew ?_) | (with_reducible refine bl_drewN ?_ _) | ((with_reducible refine bl_set ?_ ?hb _); (case hb => first | (simp; done) | omega | (simp; omega))) | (with_reducible refine bl_trans ?_ (by assumption))))))) _ _
      · have HV := Lib.hid hv
        rw [hv] at hTS
        obtain ⟨L, hL⟩ : ∃ L, setL xs s = L := ⟨_, rfl⟩
        rw [hL] at hTS HS1 HNS s2
        have HTS := Lib.hid hTS
        have hL16 : L.length ≤ 16 := by omega
        clear hTS hv hL
        go_wp2_with fail
        refine HTS.out.mono ?_
        rintro e w2 ⟨A2, c2, rfl, hw2, hb2⟩
        have HW2 := Lib.hid hw2
        have HN2 := Lib.hid (HN.out.below hb2)
        have HB2 := Lib.hid (bl_trans HB.out hb2)
        have hs2 := hb2.size
        clear hw2 hb2
        go_wp2
        go_loopw [42] (fun i wi => ∃ j : Nat, j ≤ L.length ∧ i = .int .i64 j ∧ Below wv.heap.size wv wi ∧ wv.heap.size < wi.heap.size ∧ Wr wi wv.heap.size (some ⟨wv.heap.size, 0, none⟩) n (addTo (needTo xs ws k) L j) ∧ Wr wi wo.heap.size A2 L.length L) (fun i _ => L.length - (intOf i).toNat)
        case atStart => exact ⟨0, Nat.zero_le _, rfl, HB2.out, by omega, HN2.out, HW2.out⟩
        case round =>
          obtain ⟨j, hj, rfl, hbi, hszi, hni, hli⟩ := hrel
          by_cases hlj : j < L.length
          · obtain ⟨bL, offL, i, rfl, _, hij, hci⟩ := hli.rd.atI hlj
            obtain ⟨ii0, ii1⟩ := HS1.out i (List.mem_of_getElem? hij)
            obtain ⟨ii, rfl⟩ : ∃ ii : Nat, i = (ii : Int) := ⟨i.toNat, by omega⟩
            have hiin : ii < n := by omega
            obtain ⟨g, e, _, hlg, hcg, hfg⟩ := hni.2 (by omega)
            obtain rfl : wv.heap.size = g := by simpa using e
            have hnl := hni.1
            obtain ⟨v, hv⟩ : ∃ v, (addTo (needTo xs ws k) L j)[ii]? = some v := ⟨_, List.getElem?_eq_getElem (by omega)⟩
            have hcv := hcg ii v hv
            have hfv := hfg ii
            have hvb := addTo_bd (L := L) HNK.out (by omega) j v (List.mem_of_getElem? hv)
            have HST := Lib.hid (addTo_snoc hij hv)
            have HNI := Lib.hid hni
            have HLI := Lib.hid hli
            have HBI := Lib.hid hbi
            have k0 : (0 : Int) ≤ (ii : Int) := by omega
            have k1 : (ii : Int) < (n : Int) := by omega
            clear hij e hcg hfg hv hni hli hbi hnl
            go_wp2
            go_roundw
            case rel =>
              refine ⟨j + 1, by omega, by go_num, HBI.out.setCell (Nat.le_refl _) _, by simpa [World.setCell] using hszi, ?_, wr_other HLI.out hsz _ _⟩
              rw [HST.out]
              exact wr_store HNI.out hiin _
            case measure => simp [intOf]; omega
          · obtain rfl : j = L.length := by omega
            have HBI := Lib.hid hbi
            have HNI := Lib.hid hni
            clear hbi hni hli
            go_wp2
            go_roundw
            case rel => exact ⟨k + 1, by omega, by go_num, HBI.out, hszi, by rw [HNS.out]; exact HNI.out, all_snoc HS.out HA.out HV.out⟩
            case measure => simp [intOf]; omega
    · obtain rfl : k = n' := by omega
      have HNT := Lib.hid (show copyB xs ws = true by rw [HCB.out]; exact all_end (by omega) HA.out)
      have HQ := Lib.hid (show needL xs ws = needTo xs ws k by unfold needL; rw [hl'])
      have HQL := Lib.hid (show (needTo xs ws k).length = n by rw [HNL.out, hl])
      have HWR := Lib.hid hwr
      have HB := Lib.hid hb
      clear hwr hb
      go_wp2
      go_ret2
      rw [copyL_yes HNT.out, HNT.out, HQ.out]
      exact ⟨some ⟨wv.heap.size, 0, none⟩, n, by rw [HQL.out]; rfl, by rw [HQL.out]; exact wr_lower HWR.out HV1.out, bl_trans HV1.out HB.out⟩
set_option maxHeartbeats 1000000 in
theorem biCopy_any (A A' : Option Addr) (n c n' c' : Nat) (xs : List Srt) (ws : List ByteArray) (w : World) (hh : SW w A A' n n' xs ws) :
    Calls Try.prog 74 #[.slice A n c, .slice A' n' c'] w fun e w' => e = .returned (.bool (copyB xs ws)) ∧ Below w.heap.size w w' := by
  have HH := Lib.hid hh
  obtain ⟨h1, h2, h3, h4, h5, h6⟩ := hh
  have hF := tyFont_any A n c _ xs w h1 (Nat.le_refl _) h3 h5
  have h4m : n' ≤ maxLen := by unfold maxLen; omega
  have H6 := Lib.hid h6
  have H4M := Lib.hid h4m
  clear h5 h6 h4m
  rcases copy_parts xs ws with ⟨p1, p2⟩ | ⟨p1, p2, p3⟩ | ⟨hf, hw, hcb⟩
  · rw [p1] at hF
    have HF := Lib.hid hF
    have HC := Lib.hid p2
    clear hF p1 p2
    go_enter Try.func74, Try.ntmps74
    go_wp2_with (go_at_call 46; refine HF.out.mono ?_; rintro e w' ⟨rfl, hb⟩)
    go_ret
    exact ⟨ret_bool HC.out.symm, by repeat (first | (with_reducible exact Below.refl _ _) | (with_reducible assumption) | (with_reducible refine bl_alloc ?_ _) | (with_reducible refine bl_drew ?_) | (with_reducible refine bl_drewN ?_ _) | ((with_reducible refine bl_set ?_ ?hb _); (case hb => first | (simp; done) | omega | (simp; omega))) | (with_reducible refine bl_trans ?_ (by assumption)))⟩
  · rw [p1] at hF
    have HF := Lib.hid hF
    have HC := Lib.hid p3
    have HP := Lib.hid p2
    clear hF p1 p2 p3
    go_enter Try.func74, Try.ntmps74
    go_wp2_with (first | (go_at_call 46; refine HF.out.mono ?_; rintro e w' ⟨rfl, hb⟩) | (go_at_call 57; refine (tyWords_any _ _ _ _ ws _ ((h2.below hb).more hb.size) H4M.out H6.out).mono ?_; rw [HP.out]; rintro e w'' ⟨rfl, rfl⟩))
    go_ret
    exact ⟨ret_bool HC.out.symm, by repeat (first | (with_reducible exact Below.refl _ _) | (with_reducible assumption) | (with_reducible refine bl_alloc ?_ _) | (with_reducible refine bl_drew ?_) | (with_reducible refine bl_drewN ?_ _) | ((with_reducible refine bl_set ?_ ?hb _); (case hb => first | (simp; done) | omega | (simp; omega))) | (with_reducible refine bl_trans ?_ (by assumption)))⟩
  · rw [hf] at hF
    have HF := Lib.hid hF
    have HFF := Lib.hid hf
    have HW := Lib.hid hw
    have HCB := Lib.hid hcb
    clear hf hw hcb hF
    go_enter Try.func74, Try.ntmps74
    go_wp2_with fail
    refine HF.out.mono ?_
    rintro e wv ⟨rfl, hb1⟩
    have hv2 := (h2.below hb1).more hb1.size
    have HV1 := Lib.hid hb1
    clear hb1
    go_wp2_with (first | (go_at_call 57; refine (tyWords_any _ _ _ _ ws _ hv2 H4M.out H6.out).mono ?_; rw [HW.out]; rintro e w'' ⟨rfl, hww⟩; obtain rfl := hww) | (go_at_call 61; refine (biNeed_any _ _ _ _ _ _ xs ws _ (HH.out.below HV1.out) HFF.out HW.out).mono ?_; rintro e w2 ⟨A2, c2, rfl, hw2, hb2⟩; clear hw2))
    go_ret
    exact ⟨ret_bool HCB.out.symm, bl_trans HV1.out hb2⟩
/-! ### with a stock -/
/-- a font, a stock and words, as they lie in memory -/
def SC (w : World) (A B C : Option Addr) (n m k : Nat) (xs : List Srt) (ls : List Int) (ws : List ByteArray) : Prop := SI w A B n m xs ls ∧ SW w A C n k xs ws
theorem SC.below {w w' : World} {A B C : Option Addr} {n m k : Nat} {xs : List Srt} {ls : List Int} {ws : List ByteArray} (h : SC w A B C n m k xs ls ws) (hb : Below w.heap.size w w') : SC w' A B C n m k xs ls ws := ⟨h.1.below hb, h.2.below hb⟩
def askB (xs : List Srt) (ls : List Int) (ws : List ByteArray) : Bool := copyB xs ws && cntB xs ls
theorem ask_copy {xs : List Srt} {ls : List Int} {ws : List ByteArray} (h : askB xs ls ws = true) : fontB xs = true ∧ wordsB ws = true ∧ needB xs ws = true ∧ copyB xs ws = true ∧ cntB xs ls = true := by
  unfold askB at h
  rw [Bool.and_eq_true] at h
  have h1 := h.1
  unfold copyB at h1
  simp only [Bool.and_eq_true] at h1
  exact ⟨h1.1, h1.2.1, h1.2.2, h.1, h.2⟩
set_option maxHeartbeats 1000000 in
theorem biAsked_any (A B C : Option Addr) (n c m d k f : Nat) (xs : List Srt) (ls : List Int) (ws : List ByteArray) (w : World) (hh : SC w A B C n m k xs ls ws) :
    Calls Try.prog 60 #[.slice A n c, .slice B m d, .slice C k f] w fun e w' => e = .returned (.bool (askB xs ls ws)) ∧ Below w.heap.size w w' := by
  have HH := Lib.hid hh
  have HC := Lib.hid (biCopy_any A C n c k f xs ws w hh.2)
  clear hh
  go_enter Try.func60, Try.ntmps60
  go_wp2_with fail
  refine HC.out.mono ?_
  rintro e w1 ⟨rfl, hb1⟩
  have HB1 := Lib.hid hb1
  clear hb1
  have HE := Lib.hid (show askB xs ls ws = (copyB xs ws && cntB xs ls) from rfl)
  rcases hc : copyB xs ws with _ | _
  · rw [hc] at HE
    clear hc
    go_wp2
    go_ret
    exact ⟨ret_bool (by rw [HE.out]; rfl), HB1.out⟩
  · rw [hc] at HE
    clear hc
    go_wp2_with (go_at_call 50; refine (biStock_any _ _ _ _ _ _ xs ls _ (HH.out.below HB1.out).1).mono ?_; rintro e w' ⟨rfl, rfl⟩)
    go_ret
    exact ⟨ret_bool (by rw [HE.out]; rfl), HB1.out⟩
set_option maxHeartbeats 1000000 in
theorem needWith_any (A B C : Option Addr) (n c m d k f : Nat) (xs : List Srt) (ls : List Int) (ws : List ByteArray) (w : World) (hh : SC w A B C n m k xs ls ws) :
    Calls Try.prog 62 #[.slice A n c, .slice B m d, .slice C k f] w (RetS (copyL xs ws) (askB xs ls ws) w) := by
  have HH := Lib.hid hh
  have HC := Lib.hid (countSorts_any A C n c k f xs ws w hh.2)
  clear hh
  go_enter Try.func62, Try.ntmps62
  go_wp2_with fail
  refine HC.out.mono ?_
  rintro e w1 ⟨A1, c1, rfl, hw1, hb1⟩
  have HB1 := Lib.hid hb1
  have HW1 := Lib.hid hw1
  clear hb1 hw1
  have HE := Lib.hid (show askB xs ls ws = (copyB xs ws && cntB xs ls) from rfl)
  rcases hc : copyB xs ws with _ | _
  · rw [hc] at HE
    clear hc
    go_wp2
    go_ret2
    rw [HE.out]
    exact ⟨A1, c1, rfl, HW1.out, HB1.out⟩
  · have HF := Lib.hid (show fontB xs = true by have := hc; unfold copyB at this; simp only [Bool.and_eq_true] at this; exact this.1)
    rw [hc] at HE
    clear hc
    go_wp2_with (go_at_call 52; refine (areCounts_any _ _ _ _ _ _ xs ls _ (HH.out.below HB1.out).1).mono ?_; rw [HF.out]; rintro e w2 ⟨rfl, hb2⟩)
    go_ret2
    rw [HE.out]
    exact ⟨A1, c1, rfl, HW1.out.below hb2, bl_trans HB1.out hb2⟩
end Go.Proofs.Ytfehdpaoboiodaa
