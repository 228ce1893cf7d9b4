/-
  The width of a word: contracts; the law's walk.
-/
import Derived.Test.YtfehdpaoboiodaaTy6
namespace Go.Proofs.Ytfehdpaoboiodaa
open Go.RowKit
set_option linter.unusedVariables false
attribute [local go_sem ↓] Go.wp_at_zero Go.wp_at_succ

def wordB (s : ByteArray) : Bool := lettersB s 1 16
theorem word_len {s : ByteArray} (h : wordB s = true) : 1 ≤ s.size ∧ s.size ≤ 16 := by
  unfold wordB lettersB at h
  rw [Bool.and_eq_true] at h
  have := inB_iff.1 h.2
  omega
theorem tyWord_any (s : ByteArray) (w : World) (hs : s.size ≤ maxLen) : Calls Try.prog 70 #[.string s] w fun e w' => e = .returned (.bool (wordB s)) ∧ w = w' := by
  go_enter Try.func70, Try.ntmps70
  go_wp2_with (go_at_call 67; refine (tyLetters_any _ _ _ hs).mono ?_; rintro e w' ⟨rfl, rfl⟩)
  go_ret
  exact ⟨rfl, rfl⟩
theorem isWord_any (s : ByteArray) (w : World) (hs : s.size ≤ maxLen) : Calls Try.prog 72 #[.string s] w fun e w' => e = .returned (.bool (wordB s)) ∧ w = w' := by
  go_enter Try.func72, Try.ntmps72
  go_wp2_with (go_at_call 68; refine (areLetters_any _ _ _ _ hs).mono ?_; rintro e w' ⟨rfl, rfl⟩)
  go_ret
  exact ⟨rfl, rfl⟩
def widTo (xs : List Srt) (L : List Int) : Nat → Int
  | 0 => 0
  | k + 1 => match L[k]? with
    | some i => match xs[i.toNat]? with
      | some x => widTo xs L k + x.set
      | none => widTo xs L k
    | none => widTo xs L k
theorem widTo_snoc {xs : List Srt} {L : List Int} {k i : Nat} {x : Srt} (hi : L[k]? = some (i : Int)) (hx : xs[i]? = some x) : widTo xs L (k + 1) = widTo xs L k + x.set := by
  rw [widTo, hi]
  simp [hx]
theorem widTo_bd {xs : List Srt} {L : List Int} (hx : ∀ x ∈ xs, sortB x = true) : ∀ k, 0 ≤ widTo xs L k ∧ widTo xs L k ≤ 54 * (k : Int)
  | 0 => by simp [widTo]
  | k + 1 => by
    have ih := widTo_bd (L := L) hx k
    rw [widTo]
    split
    · split
      · rename_i x hxx
        have := sort_set (hx x (List.mem_of_getElem? hxx))
        omega
      · omega
    · omega
set_option maxHeartbeats 1000000 in
theorem tyWide_any (A A' : Option Addr) (n c n' c' B : Nat) (xs : List Srt) (L : List Int) (w : World) (hr : Rd cSrt 2 w B A n xs) (hrl : Rd cI 1 w w.heap.size A' n' L) (hn : n ≤ 1048576) (hn' : n' ≤ 1048576) (hx : ∀ x ∈ xs, sortB x = true) (hL : ∀ i ∈ L, 0 ≤ i ∧ i < (n : Int)) :
    Calls Try.prog 71 #[.slice A n c, .slice A' n' c'] w fun e w' => e = .returned (.int .i64 (widTo xs L L.length)) ∧ w = w' := by
  have hl' := hrl.1
  have HBD := Lib.hid (widTo_bd (L := L) hx)
  have HX := Lib.hid hx
  have HL := Lib.hid hL
  clear hx hL
  go_enter Try.func71, Try.ntmps71
  go_wp2
  go_loop [5, 10] (fun q i => ∃ k : Nat, k ≤ n' ∧ i = .int .i64 k ∧ q = .int .i64 (widTo xs L k)) (fun _ i => n' - (intOf i).toNat)
  case atStart => exact ⟨0, Nat.zero_le _, rfl, rfl⟩
  case round =>
    obtain ⟨k, hk, rfl, rfl⟩ := hrel
    by_cases hlt : k < n'
    · obtain ⟨b, off, i, rfl, _, hik, hc⟩ := hrl.atI hlt
      obtain ⟨i0, i1⟩ := HL.out i (List.mem_of_getElem? hik)
      obtain ⟨ii, rfl⟩ : ∃ ii : Nat, i = (ii : Int) := ⟨i.toNat, by omega⟩
      obtain ⟨bb, offb, x, rfl, _, hxi, x0, x1⟩ := hr.atSrt (show ii < n by omega)
      have hs := sort_set (HX.out x (List.mem_of_getElem? hxi))
      have hbd := HBD.out k
      have HS := Lib.hid (widTo_snoc hik hxi)
      clear hik hxi
      go_wp2
      go_round
      case rel => exact ⟨k + 1, by omega, by go_num, by rw [HS.out]⟩
      case measure => simp [intOf]; omega
    · obtain rfl : k = n' := by omega
      go_wp2
      go_ret
      exact ⟨ret_int (by first | rfl | rw [hl']), rfl⟩
set_option maxHeartbeats 1000000 in
theorem widthOf_any (A A' : Option Addr) (n c n' c' B : Nat) (xs : List Srt) (L : List Int) (w : World) (hr : Rd cSrt 2 w B A n xs) (hrl : Rd cI 1 w w.heap.size A' n' L) (hn : n ≤ 1048576) (hn' : n' ≤ 1048576) (hx : ∀ x ∈ xs, sortB x = true) (hL : ∀ i ∈ L, 0 ≤ i ∧ i < (n : Int)) :
    Calls Try.prog 56 #[.slice A n c, .slice A' n' c'] w fun e w' => e = .returned (.int .i64 (widTo xs L L.length)) ∧ w = w' := by
  have hl' := hrl.1
  have HBD := Lib.hid (widTo_bd (L := L) hx)
  have HX := Lib.hid hx
  have HL := Lib.hid hL
  clear hx hL
  go_enter Try.func56, Try.ntmps56
  go_wp2
  go_loop [5, 10] (fun q i => ∃ k : Nat, k ≤ n' ∧ i = .int .i64 k ∧ q = .int .i64 (widTo xs L k)) (fun _ i => n' - (intOf i).toNat)
  case atStart => exact ⟨0, Nat.zero_le _, rfl, rfl⟩
  case round =>
    obtain ⟨k, hk, rfl, rfl⟩ := hrel
    by_cases hlt : k < n'
    · obtain ⟨b, off, i, rfl, _, hik, hc⟩ := hrl.atI hlt
      obtain ⟨i0, i1⟩ := HL.out i (List.mem_of_getElem? hik)
      obtain ⟨ii, rfl⟩ : ∃ ii : Nat, i = (ii : Int) := ⟨i.toNat, by omega⟩
      obtain ⟨bb, offb, x, rfl, _, hxi, x0, x1⟩ := hr.atSrt (show ii < n by omega)
      have hs := sort_set (HX.out x (List.mem_of_getElem? hxi))
      have hbd := HBD.out k
      have HS := Lib.hid (widTo_snoc hik hxi)
      clear hik hxi
      go_wp2
      go_round
      case rel => exact ⟨k + 1, by omega, by go_num, by rw [HS.out]⟩
      case measure => simp [intOf]; omega
    · obtain rfl : k = n' := by omega
      go_wp2
      go_ret
      exact ⟨ret_int (by first | rfl | rw [hl']), rfl⟩
/-! ### WidthOfWord -/
def wowB (xs : List Srt) (s : ByteArray) : Bool := fontB xs && (wordB s && setB xs s)
def wowV (xs : List Srt) (s : ByteArray) : Int := widTo xs (setL xs s) (setL xs s).length
theorem font_all {xs : List Srt} (h : fontB xs = true) : ∀ x ∈ xs, sortB x = true := fun x hx => by
  obtain ⟨k, hk⟩ := List.mem_iff_getElem?.1 hx
  exact font_each h hk
theorem set_fail {xs : List Srt} {s : ByteArray} (h : setB xs s = false) : setL xs s = [] := by
  unfold setB at h
  unfold setL
  rcases hv : setV xs (bytes s) with _ | L
  · rfl
  · rw [hv] at h; cases h
theorem wow_parts {xs : List Srt} {s : ByteArray} : fontB xs = false ∨ fontB xs = true ∧ wordB s = false ∨ fontB xs = true ∧ wordB s = true := by
  rcases fontB xs with _ | _ <;> rcases wordB s with _ | _ <;> simp
set_option maxHeartbeats 1000000 in
theorem tyAsked_any (A : Option Addr) (n c : Nat) (xs : List Srt) (s : ByteArray) (w : World) (hr : Rd cSrt 2 w w.heap.size A n xs) (hn : n ≤ 1048576) (hok : ∀ x ∈ xs, okSrt x) (hs : s.size ≤ maxLen) :
    Calls Try.prog 53 #[.slice A n c, .string s] w fun e w' => e = .returned (.bool (fontB xs && wordB s)) ∧ Below w.heap.size w w' := by
  have hF := tyFont_any A n c _ xs w hr (Nat.le_refl _) hn hok
  have HH := Lib.hid hs
  clear hok hs
  rcases h1 : fontB xs with _ | _
  all_goals
    rw [h1] at hF
    have HF := Lib.hid hF
    clear hF
    go_enter Try.func53, Try.ntmps53
    go_wp2_with (first | (go_at_call 46; refine HF.out.mono ?_; rintro e w' ⟨rfl, hb⟩) | (go_at_call 70; refine (tyWord_any _ _ HH.out).mono ?_; rintro e w'' ⟨rfl, rfl⟩))
    go_ret
    exact ⟨rfl, by repeat (first | (with_reducible exact Below.refl _ _) | (with_reducible assumption) | (with_reducible refine bl_alloc ?_ _) | (with_reducible refine bl_drew ?_) | (with_reducible refine bl_drewN ?_ _) | ((with_reducible refine bl_set ?_ ?hb _); (case hb => first | (simp; done) | omega | (simp; omega))) | (with_reducible refine bl_trans ?_ (by assumption)))⟩
set_option maxHeartbeats 1000000 in
theorem tyWidth_any (A : Option Addr) (n c : Nat) (xs : List Srt) (s : ByteArray) (w : World) (hr : Rd cSrt 2 w w.heap.size A n xs) (hn : n ≤ 1048576) (hx : ∀ x ∈ xs, sortB x = true) (hs : s.size ≤ 1048576) :
    Calls Try.prog 54 #[.slice A n c, .string s] w (PairB (wowV xs s) (setB xs s) w) := by
  have hl := hr.1
  obtain ⟨s1, s2⟩ := setL_in xs s
  have HS1 := Lib.hid s1
  have HV := Lib.hid (show wowV xs s = widTo xs (setL xs s) (setL xs s).length from rfl)
  have HTS := Lib.hid (tySet_any A n c _ xs s w hr (Nat.le_refl _) hn hs)
  have HX := Lib.hid hx
  obtain ⟨L, hL⟩ : ∃ L, setL xs s = L := ⟨_, rfl⟩
  rw [hL] at HS1 HV HTS s2
  rw [HV.out]
  clear s1 hL hx
  go_enter Try.func54, Try.ntmps54
  go_wp2_with fail
  refine HTS.out.mono ?_
  rintro e w1 ⟨A1, c1, rfl, hw1, hb1⟩
  have HR := Lib.hid hw1.rd
  have HB1 := Lib.hid hb1
  have hL1 : L.length ≤ 1048576 := by omega
  clear hw1 hb1
  go_wp2_with (go_at_call 71; refine (tyWide_any _ _ _ _ _ _ _ xs L _ (hr.below HB1.out) HR.out hn hL1 HX.out (by rw [← hl]; exact HS1.out)).mono ?_; rintro e w' ⟨rfl, rfl⟩)
  go_ret2
  exact pair_b rfl rfl HB1.out
set_option maxHeartbeats 1000000 in
theorem specWow_any (A : Option Addr) (n c : Nat) (xs : List Srt) (s : ByteArray) (w : World) (hr : Rd cSrt 2 w w.heap.size A n xs) (hn : n ≤ 1048576) (hok : ∀ x ∈ xs, okSrt x) (hs : s.size ≤ 1048576) :
    Calls Try.prog 28 #[.slice A n c, .string s] w (PairB (oV (wowB xs s) (wowV xs s)) (wowB xs s) w) := by
  have hA := tyAsked_any A n c xs s w hr hn hok (by unfold maxLen; omega)
  have hl := hr.1
  clear hok
  rcases hB : (fontB xs && wordB s) with _ | _
  · have HW := Lib.hid (show wowB xs s = false by unfold wowB; rw [← Bool.and_assoc, hB, Bool.false_and])
    rw [hB] at hA
    have HA := Lib.hid hA
    clear hA hB
    go_enter Try.func28, Try.ntmps28
    go_wp2_with (go_at_call 53; refine HA.out.mono ?_; rintro e w' ⟨rfl, hb⟩)
    go_ret2
    exact pair_b (oV_no HW.out).symm HW.out.symm (by repeat (first | (with_reducible exact Below.refl _ _) | (with_reducible assumption) | (with_reducible refine bl_alloc ?_ _) | (with_reducible refine bl_drew ?_) | (with_reducible refine bl_drewN ?_ _) | ((with_reducible refine bl_set ?_ ?hb _); (case hb => first | (simp; done) | omega | (simp; omega))) | (with_reducible refine bl_trans ?_ (by assumption))))
  · have HW := Lib.hid (show wowB xs s = setB xs s by unfold wowB; rw [← Bool.and_assoc, hB, Bool.true_and])
    have hB2 := hB
    rw [Bool.and_eq_true] at hB2
    have HFA := Lib.hid (font_all hB2.1)
    rw [hB] at hA
    have HA := Lib.hid hA
    have HE := Lib.hid (show wowV xs s = oV (setB xs s) (wowV xs s) by
      rcases h : setB xs s with _ | _
      · rw [oV_no rfl]
        unfold wowV
        rw [set_fail h]
        rfl
      · rw [oV_yes rfl])
    clear hA hB hB2
    go_enter Try.func28, Try.ntmps28
    go_wp2_with fail
    refine HA.out.mono ?_
    rintro e w1 ⟨rfl, hb1⟩
    have HB1 := Lib.hid hb1
    clear hb1
    go_wp2_with (go_at_call 54; refine (tyWidth_any _ _ _ xs s _ ((hr.below HB1.out).more HB1.out.size) hn HFA.out hs).mono ?_; rintro e w2 ⟨rfl, hb2⟩)
    go_ret2
    exact pair_b (by rw [HW.out]; exact HE.out) HW.out.symm (bl_trans HB1.out hb2)
set_option maxHeartbeats 1000000 in
theorem sortsOfWord_any (A : Option Addr) (n c : Nat) (xs : List Srt) (s : ByteArray) (w : World) (hr : Rd cSrt 2 w w.heap.size A n xs) (hn : n ≤ 1048576) (hok : ∀ x ∈ xs, okSrt x) (hs : s.size ≤ 1048576) :
    Calls Try.prog 55 #[.slice A n c, .string s] w (RetS (if (fontB xs && wordB s) = true then setL xs s else []) (wowB xs s) w) := by
  have hF := implIsFont_any A n c _ xs w hr (Nat.le_refl _) hn hok
  have hs2 : s.size ≤ maxLen := by unfold maxLen; omega
  have HH := Lib.hid hs2
  clear hok hs2
  rcases wow_parts (xs := xs) (s := s) with h1 | ⟨h1, h2⟩ | ⟨h1, h2⟩
  · rw [show wowB xs s = false by simp [wowB, h1], if_neg (by simp [h1])]
    rw [h1] at hF
    have HF := Lib.hid hF
    clear hF h1
    go_enter Try.func55, Try.ntmps55
    go_wp2_with (go_at_call 20; refine HF.out.mono ?_; rintro e w' ⟨rfl, hb⟩)
    go_ret2
    exact rets_nil rfl (bl_trans hb (by repeat (first | (with_reducible exact Below.refl _ _) | (with_reducible assumption) | (with_reducible refine bl_alloc ?_ _) | (with_reducible refine bl_drew ?_) | (with_reducible refine bl_drewN ?_ _) | ((with_reducible refine bl_set ?_ ?hb _); (case hb => first | (simp; done) | omega | (simp; omega))) | (with_reducible refine bl_trans ?_ (by assumption))))) _ _
  · rw [show wowB xs s = false by simp [wowB, h2], if_neg (by simp [h2])]
    rw [h1] at hF
    have HF := Lib.hid hF
    have H2 := Lib.hid h2
    clear hF h1 h2
    go_enter Try.func55, Try.ntmps55
    go_wp2_with (first | (go_at_call 20; refine HF.out.mono ?_; rintro e w' ⟨rfl, hb⟩) | (go_at_call 72; refine (isWord_any _ _ HH.out).mono ?_; rw [H2.out]; rintro e w'' ⟨rfl, rfl⟩))
    go_ret2
    exact rets_nil rfl (bl_trans hb (by repeat (first | (with_reducible exact Below.refl _ _) | (with_reducible assumption) | (with_reducible refine bl_alloc ?_ _) | (with_reducible refine bl_drew ?_) | (with_reducible refine bl_drewN ?_ _) | ((with_reducible refine bl_set ?_ ?hb _); (case hb => first | (simp; done) | omega | (simp; omega))) | (with_reducible refine bl_trans ?_ (by assumption))))) _ _
  · have HX := Lib.hid (font_all h1)
    rw [show wowB xs s = setB xs s by simp [wowB, h1, h2], if_pos (by simp [h1, h2])]
    rw [h1] at hF
    have HF := Lib.hid hF
    have H2 := Lib.hid h2
    clear hF h1 h2
    go_enter Try.func55, Try.ntmps55
    go_wp2_with fail
    refine HF.out.mono ?_
    rintro e w1 ⟨rfl, hb1⟩
    have HB1 := Lib.hid hb1
    clear hb1
    go_wp2_with (first | (go_at_call 72; refine (isWord_any _ _ HH.out).mono ?_; rw [H2.out]; rintro e w'' ⟨rfl, hww⟩; obtain rfl := hww) | (go_at_call 66; refine (sortsOf_any _ _ _ _ xs s _ (hr.below HB1.out) HB1.out.size hn hs HX.out).mono ?_; rintro e w2 ⟨A2, c2, rfl, hw2, hb2⟩))
    go_ret2
    exact ⟨A2, c2, rfl, wr_lower hw2 HB1.out, bl_trans HB1.out hb2⟩
set_option maxHeartbeats 1000000 in
theorem implWow_any (A : Option Addr) (n c : Nat) (xs : List Srt) (s : ByteArray) (w : World) (hr : Rd cSrt 2 w w.heap.size A n xs) (hn : n ≤ 1048576) (hok : ∀ x ∈ xs, okSrt x) (hs : s.size ≤ 1048576) :
    Calls Try.prog 29 #[.slice A n c, .string s] w (PairB (oV (wowB xs s) (wowV xs s)) (wowB xs s) w) := by
  have hS := sortsOfWord_any A n c xs s w hr hn hok hs
  have hl := hr.1
  clear hok
  obtain ⟨M, hM⟩ : ∃ M, (if (fontB xs && wordB s) = true then setL xs s else []) = M := ⟨_, rfl⟩
  rw [hM] at hS
  rcases hB : wowB xs s with _ | _
  · rw [hB] at hS
    have HS := Lib.hid hS
    clear hS hM
    go_enter Try.func29, Try.ntmps29
    go_wp2_with fail
    refine HS.out.mono ?_
    rintro e w1 ⟨A1, c1, rfl, hw1, hb1⟩
    clear hw1
    go_wp2
    go_ret2
    exact pair_b rfl rfl hb1
  · rw [hB] at hS
    have HS := Lib.hid hS
    have hB2 := hB
    unfold wowB at hB2
    simp only [Bool.and_eq_true] at hB2
    have hMe : M = setL xs s := by rw [← hM, if_pos (by simp [hB2.1, hB2.2.1])]
    obtain ⟨s1, s2⟩ := setL_in xs s
    have HV := Lib.hid (show wowV xs s = widTo xs M M.length by rw [hMe]; rfl)
    rw [← hMe] at s1 s2
    have HS1 := Lib.hid s1
    have HX := Lib.hid (font_all hB2.1)
    have hL1 : M.length ≤ 1048576 := by omega
    clear hS hM hB hB2 hMe s1
    go_enter Try.func29, Try.ntmps29
    go_wp2_with fail
    refine HS.out.mono ?_
    rintro e w1 ⟨A1, c1, rfl, hw1, hb1⟩
    have HR := Lib.hid hw1.rd
    have HB1 := Lib.hid hb1
    clear hw1 hb1
    go_wp2_with (go_at_call 56; refine (widthOf_any _ _ _ _ _ _ _ xs M _ (hr.below HB1.out) HR.out hn hL1 HX.out (by rw [← hl]; exact HS1.out)).mono ?_; rintro e w' ⟨rfl, rfl⟩)
    go_ret2
    exact pair_b (by rw [oV_yes rfl, HV.out]) rfl HB1.out
set_option maxHeartbeats 1000000 in
theorem lawWidthOfWord (A : Option Addr) (n c : Nat) (xs : List Srt) (s : ByteArray) (w : World) (hr : Rd cSrt 2 w w.heap.size A n xs) (hn : n ≤ maxLen) (hok : ∀ x ∈ xs, okSrt x) (hs : s.size ≤ maxLen) : Calls Try.prog 7 #[.slice A n c, .string s] w fun e w' => e = .returned (.bool (true)) ∧ Below w.heap.size w w' := by
  have hs' := hs
  unfold maxLen at hs'
  clear hs
  by_cases hbig : (1048576 : Int) < s.size
  · go_enter Try.func7, Try.ntmps7
    go_wp2
    go_ret
    exact ⟨rfl, Below.refl _ _⟩
  have hs3 : s.size ≤ 1048576 := by omega
  have hn' := hn
  unfold maxLen at hn'
  have HN := Lib.hid hn
  have HOK := Lib.hid hok
  have HS := Lib.hid (szSortS_any A n c _ xs 1048576 w hr (Nat.le_refl _) hn hok (by omega) (by omega))
  clear hn hok
  go_enter Try.func7, Try.ntmps7
  go_wp2_with fail
  refine HS.out.mono ?_
  rintro e w0 ⟨r, rfl, hsz, hb0⟩
  have HSZ := Lib.hid hsz
  clear hsz
  by_cases hneg : r < 0
  · go_wp2_with fail
    go_ret
    exact ⟨rfl, by repeat (first | (with_reducible exact Below.refl _ _) | (with_reducible assumption) | (with_reducible refine bl_alloc ?_ _) | (with_reducible refine bl_drew ?_) | (with_reducible refine bl_drewN ?_ _) | ((with_reducible refine bl_set ?_ ?hb _); (case hb => first | (simp; done) | omega | (simp; omega))) | (with_reducible refine bl_trans ?_ (by assumption)))⟩
  · have hn2 : n ≤ 1048576 := by
      rcases HSZ.out with h | h <;> omega
    have hB0 : w.heap.size ≤ w0.heap.size := hb0.size
    go_wp2_with fail
    refine (toSrtS_any _ _ _ _ xs _ (hr.below hb0) hB0 hn2).mono ?_
    rintro e w1 ⟨A1, c1, rfl, h1, hb1⟩
    go_wp2_with fail
    refine (specWow_any _ _ _ xs s _ h1.rd hn2 HOK.out hs3).mono ?_
    rintro e w2 ⟨rfl, hb2⟩
    have hB2 : Below w.heap.size w w2 := by repeat (first | (with_reducible exact Below.refl _ _) | (with_reducible assumption) | (with_reducible refine bl_alloc ?_ _) | (with_reducible refine bl_drew ?_) | (with_reducible refine bl_drewN ?_ _) | ((with_reducible refine bl_set ?_ ?hb _); (case hb => first | (simp; done) | omega | (simp; omega))) | (with_reducible refine bl_trans ?_ (by assumption)))
    go_wp2_with fail
    refine (toSrtS_any _ _ _ _ xs _ (hr.below hB2) hB2.size hn2).mono ?_
    rintro e w3 ⟨A3, c3, rfl, h3, hb3⟩
    go_wp2_with fail
    refine (implWow_any _ _ _ xs s _ h3.rd hn2 HOK.out hs3).mono ?_
    rintro e w4 ⟨rfl, hb4⟩
    have hB4 : Below w.heap.size w w4 := by repeat (first | (with_reducible exact Below.refl _ _) | (with_reducible assumption) | (with_reducible refine bl_alloc ?_ _) | (with_reducible refine bl_drew ?_) | (with_reducible refine bl_drewN ?_ _) | ((with_reducible refine bl_set ?_ ?hb _); (case hb => first | (simp; done) | omega | (simp; omega))) | (with_reducible refine bl_trans ?_ (by assumption)))
    go_wp2_with fail
    refine (toSrtS_any _ _ _ _ xs _ (hr.below hB4) hB4.size hn2).mono ?_
    rintro e w5 ⟨A5, c5, rfl, h5, hb5⟩
    go_wp2_with fail
    refine (eqSrtS_same _ _ _ _ _ _ _ xs _ ((h3.below hb4).below hb5).rd h5.rd (Nat.le_refl _) (Nat.le_refl _) HN.out).mono ?_
    rintro e w6 ⟨rfl, hb6⟩
    go_wp2
    go_ret
    exact ⟨rfl, by repeat (first | (with_reducible exact Below.refl _ _) | (with_reducible assumption) | (with_reducible refine bl_alloc ?_ _) | (with_reducible refine bl_drew ?_) | (with_reducible refine bl_drewN ?_ _) | ((with_reducible refine bl_set ?_ ?hb _); (case hb => first | (simp; done) | omega | (simp; omega))) | (with_reducible refine bl_trans ?_ (by assumption)))⟩
end Go.Proofs.Ytfehdpaoboiodaa
