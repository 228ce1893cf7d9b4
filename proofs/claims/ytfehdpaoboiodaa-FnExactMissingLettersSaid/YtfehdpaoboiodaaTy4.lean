/-
  The weight of types: contracts; the law's walk.
-/
import Derived.Test.YtfehdpaoboiodaaTy3
import Derived.Test.YtfehdpaoboiodaaStrs
namespace Go.Proofs.Ytfehdpaoboiodaa
open Go.RowKit
set_option linter.unusedVariables false
attribute [local go_sem ↓] Go.wp_at_zero Go.wp_at_succ

/-- a font and numbers, as they lie in memory -/
def SI (w : World) (A A' : Option Addr) (n n' : Nat) (xs : List Srt) (ls : List Int) : Prop :=
  Rd cSrt 2 w w.heap.size A n xs ∧ Rd cI 1 w w.heap.size A' n' ls ∧ n ≤ 1048576 ∧ n' ≤ 1048576 ∧ ∀ x ∈ xs, okSrt x
theorem SI.below {w w' : World} {A A' : Option Addr} {n n' : Nat} {xs : List Srt} {ls : List Int} (h : SI w A A' n n' xs ls) (hb : Below w.heap.size w w') : SI w' A A' n n' xs ls :=
  ⟨(h.1.below hb).more hb.size, (h.2.1.below hb).more hb.size, h.2.2⟩
def cntB (xs : List Srt) (ls : List Int) : Bool := decide (ls.length = xs.length) && allIn ls 0 100000
theorem allIn_at {xs : List Int} {lo hi : Int} (h : allIn xs lo hi = true) {k : Nat} {x : Int} (hx : xs[k]? = some x) : lo ≤ x ∧ x ≤ hi :=
  inB_iff.1 (List.all_eq_true.1 h x (List.mem_of_getElem? hx))
theorem cnt_in {xs : List Srt} {ls : List Int} (h : cntB xs ls = true) : ls.length = xs.length ∧ allIn ls 0 100000 = true := by
  unfold cntB at h
  rw [Bool.and_eq_true] at h
  exact ⟨of_decide_eq_true h.1, h.2⟩
theorem font_len {xs : List Srt} (h : fontB xs = true) : 1 ≤ xs.length ∧ xs.length ≤ 32 := by
  unfold fontB at h
  rw [Bool.and_eq_true] at h
  have := inB_iff.1 h.2
  omega
theorem font_each {xs : List Srt} (h : fontB xs = true) {k : Nat} {x : Srt} (hx : xs[k]? = some x) : sortB x = true := by
  have hk := (List.getElem?_eq_some_iff.1 hx).1
  unfold fontB at h
  rw [Bool.and_eq_true] at h
  have := List.all_eq_true.1 h.1 k (List.mem_range.2 hk)
  simp [fontAt, hx] at this
  exact this.1
theorem sort_set {x : Srt} (h : sortB x = true) : 1 ≤ x.set ∧ x.set ≤ 54 := by
  unfold sortB at h
  rw [Bool.and_eq_true] at h
  exact inB_iff.1 h.2
set_option maxHeartbeats 1000000 in
theorem biStock_any (A A' : Option Addr) (n c n' c' : Nat) (xs : List Srt) (ls : List Int) (w : World) (hs : SI w A A' n n' xs ls) :
    Calls Try.prog 50 #[.slice A n c, .slice A' n' c'] w fun e w' => e = .returned (.bool (cntB xs ls)) ∧ w = w' := by
  obtain ⟨h1, h2, h3, h4, _⟩ := hs
  have hl := h1.1
  have hl' := h2.1
  by_cases he : n' = n
  · have HE := Lib.hid (show cntB xs ls = allIn ls 0 100000 by unfold cntB; rw [decide_eq_true (by omega), Bool.true_and])
    subst he
    have hbe : ((n' : Int) == (n' : Int)) = true := by simp
    go_enter Try.func50, Try.ntmps50
    go_wp2_with (go_at_call 69; refine (l1All_any _ _ _ _ ls _ _ _ h2 (by unfold maxLen; omega)).mono ?_; rintro e w' ⟨rfl, rfl⟩)
    go_ret
    exact ⟨ret_bool HE.out.symm, rfl⟩
  · have HE := Lib.hid (show cntB xs ls = false by unfold cntB; rw [decide_eq_false (by omega), Bool.false_and])
    have hbe : ((n' : Int) == (n : Int)) = false := by simp; omega
    go_enter Try.func50, Try.ntmps50
    go_wp2
    go_ret
    exact ⟨ret_bool HE.out.symm, rfl⟩
set_option maxHeartbeats 1000000 in
theorem areCounts_any (A A' : Option Addr) (n c n' c' : Nat) (xs : List Srt) (ls : List Int) (w : World) (hs : SI w A A' n n' xs ls) :
    Calls Try.prog 52 #[.slice A n c, .slice A' n' c'] w fun e w' => e = .returned (.bool (fontB xs && cntB xs ls)) ∧ Below w.heap.size w w' := by
  obtain ⟨h1, h2, h3, h4, h5⟩ := hs
  have hl := h1.1
  have hl' := h2.1
  have HF := Lib.hid (implIsFont_any A n c _ xs w h1 (Nat.le_refl _) h3 h5)
  clear h5
  go_enter Try.func52, Try.ntmps52
  go_wp2
  go_loop [9] (fun i => ∃ k : Nat, k ≤ n' ∧ i = .int .i64 k ∧ Hid ((ls.take k).all (inB · 0 100000) = true)) (fun i => n' - (intOf i).toNat)
  case atStart => exact ⟨0, Nat.zero_le _, rfl, rfl⟩
  case round =>
    obtain ⟨k, hk, rfl, HA⟩ := hrel
    by_cases hlt : k < n'
    · obtain ⟨b, off, x, rfl, _, hx, hc⟩ := h2.atI hlt
      have HX := Lib.hid hx
      clear hx
      rcases hin : inB x 0 100000 with _ | _
      · have HI := Lib.hid hin
        go_wp2_with (go_at_call 45; refine (within_any _ _ _ _).mono ?_; rw [HI.out]; rintro e w' ⟨rfl, rfl⟩)
        go_ret
        exact ⟨ret_bool (by unfold cntB allIn; rw [all_no (p := (inB · 0 100000)) HX.out HI.out]; simp), by repeat (first | (with_reducible exact Below.refl _ _) | (with_reducible assumption) | (with_reducible refine bl_alloc ?_ _) | (with_reducible refine bl_drew ?_) | (with_reducible refine bl_drewN ?_ _) | ((with_reducible refine bl_set ?_ ?hb _); (case hb => first | (simp; done) | omega | (simp; omega))) | (with_reducible refine bl_trans ?_ (by assumption)))⟩
      · have HI := Lib.hid hin
        go_wp2_with (go_at_call 45; refine (within_any _ _ _ _).mono ?_; rw [HI.out]; rintro e w' ⟨rfl, rfl⟩)
        go_round
        case rel => exact ⟨k + 1, by omega, by go_num, all_snoc (p := (inB · 0 100000)) HX.out HA.out HI.out⟩
        case measure => simp [intOf]; omega
    · obtain rfl : k = n' := by omega
      have HAL := Lib.hid (show allIn ls 0 100000 = true from all_end (by omega) HA.out)
      rcases hF : fontB xs with _ | _
      · have HFF := Lib.hid hF
        clear hF
        go_wp2_with (go_at_call 20; refine HF.out.mono ?_; rw [HFF.out]; rintro e w' ⟨rfl, hb⟩)
        go_ret
        exact ⟨ret_bool (by rw [HFF.out]; rfl), by repeat (first | (with_reducible exact Below.refl _ _) | (with_reducible assumption) | (with_reducible refine bl_alloc ?_ _) | (with_reducible refine bl_drew ?_) | (with_reducible refine bl_drewN ?_ _) | ((with_reducible refine bl_set ?_ ?hb _); (case hb => first | (simp; done) | omega | (simp; omega))) | (with_reducible refine bl_trans ?_ (by assumption)))⟩
      · have HFF := Lib.hid hF
        clear hF
        by_cases he : k = n
        · have HE := Lib.hid (show cntB xs ls = true by unfold cntB; rw [decide_eq_true (by omega), HAL.out]; rfl)
          have hbe : ((k : Int) == (n : Int)) = true := by simp; omega
          go_wp2_with (go_at_call 20; refine HF.out.mono ?_; rw [HFF.out]; rintro e w' ⟨rfl, hb⟩)
          go_ret
          exact ⟨ret_bool (by rw [HE.out, HFF.out]; rfl), by repeat (first | (with_reducible exact Below.refl _ _) | (with_reducible assumption) | (with_reducible refine bl_alloc ?_ _) | (with_reducible refine bl_drew ?_) | (with_reducible refine bl_drewN ?_ _) | ((with_reducible refine bl_set ?_ ?hb _); (case hb => first | (simp; done) | omega | (simp; omega))) | (with_reducible refine bl_trans ?_ (by assumption)))⟩
        · have HE := Lib.hid (show cntB xs ls = false by unfold cntB; rw [decide_eq_false (by omega)]; rfl)
          have hbe : ((k : Int) == (n : Int)) = false := by simp; omega
          go_wp2_with (go_at_call 20; refine HF.out.mono ?_; rw [HFF.out]; rintro e w' ⟨rfl, hb⟩)
          go_ret
          exact ⟨ret_bool (by rw [HE.out, HFF.out]; rfl), by repeat (first | (with_reducible exact Below.refl _ _) | (with_reducible assumption) | (with_reducible refine bl_alloc ?_ _) | (with_reducible refine bl_drew ?_) | (with_reducible refine bl_drewN ?_ _) | ((with_reducible refine bl_set ?_ ?hb _); (case hb => first | (simp; done) | omega | (simp; omega))) | (with_reducible refine bl_trans ?_ (by assumption)))⟩
/-! ### WeightOfTypes -/
def wTo (xs : List Srt) (ls : List Int) : Nat → Int
  | 0 => 0
  | k + 1 => match xs[k]?, ls[k]? with | some x, some l => wTo xs ls k + l * x.set | _, _ => wTo xs ls k
theorem wTo_snoc {xs : List Srt} {ls : List Int} {k : Nat} {x : Srt} {l : Int} (hx : xs[k]? = some x) (hl : ls[k]? = some l) : wTo xs ls (k + 1) = wTo xs ls k + l * x.set := by rw [wTo, hx, hl]
theorem mul_bd {a b A B : Int} (a0 : 0 ≤ a) (a1 : a ≤ A) (b0 : 0 ≤ b) (b1 : b ≤ B) : 0 ≤ a * b ∧ a * b ≤ A * B :=
  ⟨Int.mul_nonneg a0 b0, Int.le_trans (Int.mul_le_mul_of_nonneg_right a1 b0) (Int.mul_le_mul_of_nonneg_left b1 (by omega))⟩
theorem wTo_bd {xs : List Srt} {ls : List Int} (hf : fontB xs = true) (hc : cntB xs ls = true) : ∀ k, k ≤ xs.length → 0 ≤ wTo xs ls k ∧ wTo xs ls k ≤ 5400000 * (k : Int)
  | 0, _ => by simp [wTo]
  | k + 1, hk => by
    obtain ⟨c1, c2⟩ := cnt_in hc
    have h1 := wTo_bd hf hc k (by omega)
    have hx : xs[k]? = some (xs[k]'(by omega)) := List.getElem?_eq_getElem _
    have hl : ls[k]? = some (ls[k]'(by omega)) := List.getElem?_eq_getElem _
    have h2 := sort_set (font_each hf hx)
    have h3 := allIn_at c2 hl
    have h4 := mul_bd h3.1 h3.2 (show 0 ≤ xs[k].set by omega) h2.2
    rw [wTo_snoc hx hl]
    omega
def wotB (xs : List Srt) (ls : List Int) (body : Int) : Bool := fontB xs && (cntB xs ls && inB body 1 72)
def wotV (xs : List Srt) (ls : List Int) (body : Int) : Int := (wTo xs ls xs.length * body + 99) / 100
theorem wot_parts {xs : List Srt} {ls : List Int} {body : Int} (h : wotB xs ls body = false) : fontB xs = false ∨ fontB xs = true ∧ cntB xs ls = false ∨ fontB xs = true ∧ cntB xs ls = true ∧ inB body 1 72 = false := by
  unfold wotB at h
  rcases h1 : fontB xs with _ | _ <;> rcases h2 : cntB xs ls with _ | _ <;> rcases h3 : inB body 1 72 with _ | _ <;> simp_all
set_option maxHeartbeats 1000000 in
theorem specWot_any (A A' : Option Addr) (n c n' c' : Nat) (xs : List Srt) (ls : List Int) (body : Int) (w : World) (hs : SI w A A' n n' xs ls) :
    Calls Try.prog 24 #[.slice A n c, .slice A' n' c', .int .i64 body] w (PairB (oV (wotB xs ls body) (wotV xs ls body)) (wotB xs ls body) w) := by
  have hF := tyFont_any A n c _ xs w hs.1 (Nat.le_refl _) hs.2.2.1 hs.2.2.2.2
  have HST := Lib.hid (fun (W : World) (hb : Below w.heap.size w W) => biStock_any A A' n c n' c' xs ls W (hs.below hb))
  have hl := hs.1.1
  have hl' := hs.2.1.1
  rcases hB : wotB xs ls body with _ | _
  · rw [oV_no rfl]
    rcases wot_parts hB with h1 | ⟨h1, h2⟩ | ⟨h1, h2, h3⟩
    · rw [h1] at hF
      have HF := Lib.hid hF
      clear hF
      go_enter Try.func24, Try.ntmps24
      go_wp2_with (go_at_call 46; refine HF.out.mono ?_; rintro e w1 ⟨rfl, hb⟩)
      go_ret2
      exact pair_b rfl rfl (by repeat (first | (with_reducible exact Below.refl _ _) | (with_reducible assumption) | (with_reducible refine bl_alloc ?_ _) | (with_reducible refine bl_drew ?_) | (with_reducible refine bl_drewN ?_ _) | ((with_reducible refine bl_set ?_ ?hb _); (case hb => first | (simp; done) | omega | (simp; omega))) | (with_reducible refine bl_trans ?_ (by assumption))))
    · rw [h1] at hF
      rw [h2] at HST
      have HF := Lib.hid hF
      clear hF
      go_enter Try.func24, Try.ntmps24
      go_wp2_with (first | (go_at_call 46; refine HF.out.mono ?_; rintro e w1 ⟨rfl, hb⟩) | (go_at_call 50; refine (HST.out _ hb).mono ?_; rintro e w2 ⟨rfl, rfl⟩))
      go_ret2
      exact pair_b rfl rfl (by repeat (first | (with_reducible exact Below.refl _ _) | (with_reducible assumption) | (with_reducible refine bl_alloc ?_ _) | (with_reducible refine bl_drew ?_) | (with_reducible refine bl_drewN ?_ _) | ((with_reducible refine bl_set ?_ ?hb _); (case hb => first | (simp; done) | omega | (simp; omega))) | (with_reducible refine bl_trans ?_ (by assumption))))
    · rw [h1] at hF
      rw [h2] at HST
      have HF := Lib.hid hF
      have H3 := Lib.hid h3
      clear hF h3
      go_enter Try.func24, Try.ntmps24
      go_wp2_with (first | (go_at_call 46; refine HF.out.mono ?_; rintro e w1 ⟨rfl, hb⟩) | (go_at_call 50; refine (HST.out _ hb).mono ?_; rintro e w2 ⟨rfl, rfl⟩) | (go_at_call 51; refine (l1In_any _ _ _ _).mono ?_; rw [H3.out]; rintro e w2 ⟨rfl, rfl⟩))
      go_ret2
      exact pair_b rfl rfl (by repeat (first | (with_reducible exact Below.refl _ _) | (with_reducible assumption) | (with_reducible refine bl_alloc ?_ _) | (with_reducible refine bl_drew ?_) | (with_reducible refine bl_drewN ?_ _) | ((with_reducible refine bl_set ?_ ?hb _); (case hb => first | (simp; done) | omega | (simp; omega))) | (with_reducible refine bl_trans ?_ (by assumption))))
  · rw [oV_yes rfl]
    have hB2 := hB
    unfold wotB at hB2
    simp only [Bool.and_eq_true] at hB2
    obtain ⟨h1, h2, h3⟩ := hB2
    obtain ⟨b0, b1⟩ := inB_iff.1 h3
    obtain ⟨c1, c2⟩ := cnt_in h2
    have hlen := font_len h1
    obtain rfl : n = n' := by omega
    have hn32 : n ≤ 32 := by omega
    rw [h1] at hF
    rw [h2] at HST
    have HF := Lib.hid hF
    have H1 := Lib.hid h1
    have H2 := Lib.hid h2
    have H3 := Lib.hid h3
    have HC2 := Lib.hid c2
    have HBD := Lib.hid (wTo_bd h1 h2)
    have HV := Lib.hid (show wotV xs ls body = (wTo xs ls n * body + 99) / 100 by rw [wotV, hl])
    have HL := Lib.hid hl
    clear hF h1 h2 h3 hB c1 c2 hl hl'
    go_enter Try.func24, Try.ntmps24
    go_wp2_with fail
    refine HF.out.mono ?_
    rintro e W ⟨rfl, hb⟩
    have HS := Lib.hid (hs.below hb)
    have HB := Lib.hid hb
    have HBS := Lib.hid (HST.out _ hb)
    clear hb
    go_wp2_with fail
    refine HBS.out.mono ?_
    rintro e w2 ⟨rfl, hww⟩
    obtain rfl := hww
    go_wp2_with fail
    refine (l1In_any _ _ _ _).mono ?_
    rw [H3.out]
    rintro e w2 ⟨rfl, hww⟩
    obtain rfl := hww
    go_wp2
    go_loop [8, 27] (fun q i => ∃ k : Nat, k ≤ n ∧ i = .int .i64 k ∧ q = .int .i64 (wTo xs ls k * body)) (fun _ i => n - (intOf i).toNat)
    case atStart => exact ⟨0, Nat.zero_le _, rfl, by simp [wTo]⟩
    case round =>
      obtain ⟨k, hk, rfl, rfl⟩ := hrel
      have hbk := HBD.out k (by have := HL.out; omega)
      have hmb := mul_bd hbk.1 (show wTo xs ls k ≤ 172800000 by omega) (show 0 ≤ body by omega) b1
      by_cases hlt : k < n
      · obtain ⟨b, off, l, rfl, _, hlk, hc⟩ := HS.out.2.1.atI hlt
        obtain ⟨bb, offb, x, rfl, _, hxk, x0, x1⟩ := HS.out.1.atSrt (show k < n by omega)
        have hx2 := sort_set (font_each H1.out hxk)
        have hl2 := allIn_at HC2.out hlk
        have hm := mul_bd hl2.1 hl2.2 (show 0 ≤ x.set by omega) hx2.2
        have hm2 := mul_bd hm.1 (show l * x.set ≤ 5400000 by omega) (show 0 ≤ body by omega) b1
        have HSN := Lib.hid (wTo_snoc hxk hlk)
        have k0 : (0 : Int) ≤ (k : Int) := by omega
        have k1 : (k : Int) < (n : Int) := by omega
        clear hlk hxk
        go_wp2
        go_round
        case rel => exact ⟨k + 1, by omega, by go_num, by rw [HSN.out, Int.add_mul]⟩
        case measure => simp [intOf]; omega
      · obtain rfl : k = n := by omega
        go_wp2
        go_ret2
        exact pair_b HV.out.symm rfl HB.out
set_option maxHeartbeats 1000000 in
theorem implWot_any (A A' : Option Addr) (n c n' c' : Nat) (xs : List Srt) (ls : List Int) (body : Int) (w : World) (hs : SI w A A' n n' xs ls) :
    Calls Try.prog 26 #[.slice A n c, .slice A' n' c', .int .i64 body] w (PairB (oV (wotB xs ls body) (wotV xs ls body)) (wotB xs ls body) w) := by
  have hA := areCounts_any A A' n c n' c' xs ls w hs
  have hl := hs.1.1
  have hl' := hs.2.1.1
  rcases hB : wotB xs ls body with _ | _
  · rw [oV_no rfl]
    rcases hAC : (fontB xs && cntB xs ls) with _ | _
    · rw [hAC] at hA
      have HA := Lib.hid hA
      clear hA hAC
      go_enter Try.func26, Try.ntmps26
      go_wp2_with (go_at_call 52; refine HA.out.mono ?_; rintro e w1 ⟨rfl, hb⟩)
      go_ret2
      exact pair_b rfl rfl (by repeat (first | (with_reducible exact Below.refl _ _) | (with_reducible assumption) | (with_reducible refine bl_alloc ?_ _) | (with_reducible refine bl_drew ?_) | (with_reducible refine bl_drewN ?_ _) | ((with_reducible refine bl_set ?_ ?hb _); (case hb => first | (simp; done) | omega | (simp; omega))) | (with_reducible refine bl_trans ?_ (by assumption))))
    · rw [hAC] at hA
      have HA := Lib.hid hA
      have H3 := Lib.hid (show inB body 1 72 = false by unfold wotB at hB; rw [← Bool.and_assoc, hAC, Bool.true_and] at hB; exact hB)
      clear hA hAC
      go_enter Try.func26, Try.ntmps26
      go_wp2_with (first | (go_at_call 52; refine HA.out.mono ?_; rintro e w1 ⟨rfl, hb⟩) | (go_at_call 45; refine (within_any _ _ _ _).mono ?_; rw [H3.out]; rintro e w2 ⟨rfl, rfl⟩))
      go_ret2
      exact pair_b rfl rfl (by repeat (first | (with_reducible exact Below.refl _ _) | (with_reducible assumption) | (with_reducible refine bl_alloc ?_ _) | (with_reducible refine bl_drew ?_) | (with_reducible refine bl_drewN ?_ _) | ((with_reducible refine bl_set ?_ ?hb _); (case hb => first | (simp; done) | omega | (simp; omega))) | (with_reducible refine bl_trans ?_ (by assumption))))
  · rw [oV_yes rfl]
    have hB2 := hB
    unfold wotB at hB2
    simp only [Bool.and_eq_true] at hB2
    obtain ⟨h1, h2, h3⟩ := hB2
    obtain ⟨b0, b1⟩ := inB_iff.1 h3
    obtain ⟨c1, c2⟩ := cnt_in h2
    have hlen := font_len h1
    obtain rfl : n = n' := by omega
    have hn32 : n ≤ 32 := by omega
    rw [h1, h2, Bool.true_and] at hA
    have HA := Lib.hid hA
    have H1 := Lib.hid h1
    have H3 := Lib.hid h3
    have HC2 := Lib.hid c2
    have HBD := Lib.hid (wTo_bd h1 h2)
    have HV := Lib.hid (show wotV xs ls body = (wTo xs ls n * body + 99) / 100 by rw [wotV, hl])
    have HL := Lib.hid hl
    clear hA h1 h2 h3 hB c1 c2 hl hl'
    go_enter Try.func26, Try.ntmps26
    go_wp2_with (first | (go_at_call 52; refine HA.out.mono ?_; rintro e W ⟨rfl, hb⟩) | (go_at_call 45; refine (within_any _ _ _ _).mono ?_; rw [H3.out]; rintro e w2 ⟨rfl, hww⟩; obtain rfl := hww))
    have HS := Lib.hid (hs.below hb)
    have HB := Lib.hid hb
    clear hb
    go_loopw [8, 22] (fun q i wr => ∃ k : Nat, k ≤ n ∧ i = .int .i64 k ∧ q = .int .i64 (wTo xs ls k) ∧ Below W.heap.size W wr) (fun _ i _ => n - (intOf i).toNat)
    case atStart => exact ⟨0, Nat.zero_le _, rfl, by simp [wTo], Below.refl _ _⟩
    case round =>
      obtain ⟨k, hk, rfl, rfl, hb⟩ := hrel
      have hbk := HBD.out k (by have := HL.out; omega)
      by_cases hlt : k < n
      · obtain ⟨b, off, l, rfl, hbl, hlk, hc⟩ := (HS.out.below hb).2.1.atI (show k < n by omega)
        obtain ⟨bb, offb, x, rfl, _, hxk, x0, x1⟩ := (HS.out.below hb).1.atSrt hlt
        have hx2 := sort_set (font_each H1.out hxk)
        have hl2 := allIn_at HC2.out hlk
        have hm := mul_bd hl2.1 hl2.2 (show 0 ≤ x.set by omega) hx2.2
        have HSN := Lib.hid (wTo_snoc hxk hlk)
        have HB2 := Lib.hid hb
        have k0 : (0 : Int) ≤ (k : Int) := by omega
        have k1 : (k : Int) < (n : Int) := by omega
        have e1 : IntKind.i64.wrap (l * x.set) = l * x.set := IntWalk.i64_in _ (by omega)
        have e2 : IntKind.i64.wrap (wTo xs ls k + l * x.set) = wTo xs ls k + l * x.set := IntWalk.i64_in _ (by omega)
        have n1 : b ≠ wr.heap.size := by omega
        have n2 : wr.heap.size ≠ b := by omega
        clear hlk hxk hb
        go_wp2
        go_region_held3 (fun w' => w'.cell? ⟨b, off + k, none⟩ = some (.int .i64 l) ∧ w'.cell? ⟨wr.heap.size, 1, none⟩ = some (.int .i64 x.set)) (go_keep) (fail)
        go_wp2
        go_roundw
        case rel => exact ⟨k + 1, by omega, by go_num, by rw [HSN.out], bl_trans HB2.out (by repeat (first | (with_reducible exact Below.refl _ _) | (with_reducible assumption) | (with_reducible refine bl_alloc ?_ _) | (with_reducible refine bl_drew ?_) | (with_reducible refine bl_drewN ?_ _) | ((with_reducible refine bl_set ?_ ?hb _); (case hb => first | (simp; done) | omega | (simp; omega))) | (with_reducible refine bl_trans ?_ (by assumption))))⟩
        case measure => simp [intOf]; omega
      · obtain rfl : k = n := by omega
        have hmb := mul_bd hbk.1 (show wTo xs ls k ≤ 172800000 by omega) (show 0 ≤ body by omega) b1
        have HB2 := Lib.hid (bl_trans HB.out hb)
        clear hb
        go_wp2
        go_ret2
        exact pair_b HV.out.symm rfl HB2.out
set_option maxHeartbeats 2000000 in
theorem lawWeightOfTypes (A : Option Addr) (n c : Nat) (xs : List Srt) (A' : Option Addr) (n' c' : Nat) (ls : List Int) (body : Int) (w : World) (hr : Rd cSrt 2 w w.heap.size A n xs) (hn : n ≤ maxLen) (hok : ∀ x ∈ xs, okSrt x) (hrl : Rd cI 1 w w.heap.size A' n' ls) (hnn : n' ≤ maxLen) (_ : ∀ x ∈ ls, I64 x) (_ : I64 body) : Calls Try.prog 6 #[.slice A n c, .slice A' n' c', .int .i64 body] w fun e w' => e = .returned (.bool (true)) ∧ Below w.heap.size w w' := by
  have hn' := hn
  unfold maxLen at hn'
  have hnn' := hnn
  unfold maxLen at hnn'
  have HN := Lib.hid hn
  have HNN := Lib.hid hnn
  have HOK := Lib.hid hok
  have HS := Lib.hid (szSortS_any A n c _ xs 1048576 w hr (Nat.le_refl _) hn hok (by omega) (by omega))
  clear hn hok hnn
  by_cases hbig : (1048576 : Int) < (n' : Int)
  · go_enter Try.func6, Try.ntmps6
    go_wp2
    go_ret
    exact ⟨rfl, by repeat (first | (with_reducible exact Below.refl _ _) | (with_reducible assumption) | (with_reducible refine bl_alloc ?_ _) | (with_reducible refine bl_drew ?_) | (with_reducible refine bl_drewN ?_ _) | ((with_reducible refine bl_set ?_ ?hb _); (case hb => first | (simp; done) | omega | (simp; omega))) | (with_reducible refine bl_trans ?_ (by assumption)))⟩
  go_enter Try.func6, Try.ntmps6
  go_wp2_with fail
  refine HS.out.mono ?_
  rintro e w0 ⟨r, rfl, hsz, hb0⟩
  have HSZ := Lib.hid hsz
  have HB0 := Lib.hid hb0
  clear hsz hb0
  by_cases hneg : r < 0
  · go_wp2_with fail
    go_ret
    exact ⟨rfl, HB0.out⟩
  have hn2 : n ≤ 1048576 := by
    rcases HSZ.out with h | h <;> omega
  have hn3 : n' ≤ 1048576 := by omega
  have HT := Lib.hid (fun (W : World) (h : Below w.heap.size w W) => toSrtS_cap A n c _ xs W (hr.below h) h.size hn2)
  have HI := Lib.hid (fun (W : World) (h : Below w.heap.size w W) => toIntS_cap A' n' c' _ ls W (hrl.below h) h.size hn3)
  go_wp2_with fail
  refine (HT.out _ HB0.out).mono ?_
  rintro e w1 ⟨A1, rfl, h1, hb⟩
  have HB1 := Lib.hid (bl_trans HB0.out hb)
  clear hb
  go_wp2_with fail
  refine (HI.out _ HB1.out).mono ?_
  rintro e w2 ⟨A2, rfl, h2, hb⟩
  have HB2 := Lib.hid (bl_trans HB1.out hb)
  have HO2 := Lib.hid (show SI w2 A1 A2 n n' xs ls from ⟨(h1.below hb).rd, h2.rd, hn2, hn3, HOK.out⟩)
  clear hb h1 h2
  go_wp2_with fail
  refine (specWot_any _ _ _ _ _ _ xs ls body _ HO2.out).mono ?_
  rintro e w3 ⟨rfl, hb⟩
  have HB3 := Lib.hid (bl_trans HB2.out hb)
  clear hb
  go_wp2_with fail
  refine (HT.out _ HB3.out).mono ?_
  rintro e w4 ⟨A4, rfl, h4, hb⟩
  have HB4 := Lib.hid (bl_trans HB3.out hb)
  clear hb
  go_wp2_with fail
  refine (HI.out _ HB4.out).mono ?_
  rintro e w5 ⟨A5, rfl, h5, hb⟩
  have HB5 := Lib.hid (bl_trans HB4.out hb)
  have HO5 := Lib.hid (show SI w5 A4 A5 n n' xs ls from ⟨(h4.below hb).rd, h5.rd, hn2, hn3, HOK.out⟩)
  have H4 := Lib.hid (h4.below hb)
  have H5 := Lib.hid h5
  clear hb h4 h5
  go_wp2_with fail
  refine (implWot_any _ _ _ _ _ _ xs ls body _ HO5.out).mono ?_
  rintro e w6 ⟨rfl, hb⟩
  have HB6 := Lib.hid (bl_trans HB5.out hb)
  have H46 := Lib.hid (H4.out.below hb)
  have H56 := Lib.hid (H5.out.below hb)
  clear hb
  go_wp2_with fail
  refine (HT.out _ HB6.out).mono ?_
  rintro e w7 ⟨A7, rfl, h7, hb⟩
  have HB7 := Lib.hid (bl_trans HB6.out hb)
  have H47 := Lib.hid (H46.out.below hb)
  have H57 := Lib.hid (H56.out.below hb)
  clear hb
  go_wp2_with fail
  refine (eqSrtS_same _ _ _ _ _ _ _ xs _ H47.out.rd h7.rd (Nat.le_refl _) (Nat.le_refl _) HN.out).mono ?_
  rintro e w8 ⟨rfl, hb⟩
  have HB8 := Lib.hid (bl_trans HB7.out hb)
  have H58 := Lib.hid (H57.out.below hb)
  clear hb h7
  go_wp2_with fail
  refine (HI.out _ HB8.out).mono ?_
  rintro e w9 ⟨A9, rfl, h9, hb⟩
  have HB9 := Lib.hid (bl_trans HB8.out hb)
  have H59 := Lib.hid (H58.out.below hb)
  clear hb
  go_wp2_with fail
  refine (eqIntS_any _ _ _ _ _ _ _ _ _ _ _ H59.out.rd h9.rd HNN.out HNN.out).mono ?_
  rintro e w10 ⟨rfl, mm, rfl⟩
  rw [eqL_same]
  go_wp2
  go_ret
  exact ⟨rfl, bl_drewN HB9.out mm⟩
end Go.Proofs.Ytfehdpaoboiodaa
