/-
  Orders of castings: contracts of their validity on both sides.
-/
import Derived.Test.YtabmhmbmdegoaaaCs1
import Derived.Maps.Own
import Derived.Maps.OwnOps
import Derived.Maps.Views
namespace Go.Proofs.Ytabmhmbmdegoaaa
open Go.RowKit Go.Maps
set_option linter.unusedVariables false
attribute [local go_sem ↓] Go.wp_at_zero Go.wp_at_succ

def hasI (xs : List Int) (x : Int) : Bool := decide (x ∈ xs)
theorem has_yes {xs : List Int} {x : Int} {k : Nat} (h : xs[k]? = some x) : hasI xs x = true := by
  unfold hasI
  exact decide_eq_true (List.mem_of_getElem? h)
def neB (x y : Int) : Bool := decide (y ≠ x)
theorem has_no {xs : List Int} {x : Int} {k : Nat} (hk : xs.length ≤ k) (h : (xs.take k).all (neB x) = true) : hasI xs x = false := by
  have := all_end hk h
  unfold hasI
  refine decide_eq_false (fun hm => ?_)
  have := List.all_eq_true.1 this x hm
  simp [neB] at this
set_option maxHeartbeats 400000 in
theorem l1Has_any (A : Option Addr) (n c B : Nat) (xs : List Int) (x : Int) (w : World) (hr : Rd cI 1 w B A n xs) (hn : n ≤ maxLen) :
    Calls Try.prog 73 #[.slice A n c, .int .i64 x] w fun e w' => e = .returned (.bool (hasI xs x)) ∧ w = w' := by
  unfold maxLen at hn
  have hl := hr.1
  go_enter Try.func73, Try.ntmps73
  go_wp2
  go_loop [9] (fun i => ∃ k : Nat, k ≤ n ∧ i = .int .i64 k ∧ Hid ((xs.take k).all (neB x) = true)) (fun i => n - (intOf i).toNat)
  case atStart => exact ⟨0, Nat.zero_le _, rfl, rfl⟩
  case round =>
    obtain ⟨k, hk, rfl, HA⟩ := hrel
    by_cases hlt : k < n
    · obtain ⟨b, off, y, rfl, _, hy, hc⟩ := hr.atI hlt
      have HY := Lib.hid hy
      clear hy
      by_cases hxy : y = x
      · have HV := Lib.hid hxy
        have hb : (y == x) = true := by simpa using hxy
        clear hxy
        go_wp2
        go_ret
        exact ⟨ret_bool (has_yes (by rw [← HV.out]; exact HY.out)).symm, rfl⟩
      · have HV := Lib.hid (show neB x y = true by simpa [neB] using hxy)
        have hb : (y == x) = false := by simpa using hxy
        clear hxy
        go_wp2
        go_round
        case rel => exact ⟨k + 1, by omega, by go_num, all_snoc HY.out HA.out HV.out⟩
        case measure => simp [intOf]; omega
    · have HE := Lib.hid (has_no (by omega) HA.out)
      go_wp2
      go_ret
      exact ⟨ret_bool HE.out.symm, rfl⟩
set_option maxHeartbeats 400000 in
theorem hasNumber_any (A : Option Addr) (n c B : Nat) (xs : List Int) (x : Int) (w : World) (hr : Rd cI 1 w B A n xs) (hn : n ≤ maxLen) :
    Calls Try.prog 76 #[.slice A n c, .int .i64 x] w fun e w' => e = .returned (.bool (hasI xs x)) ∧ w = w' := by
  unfold maxLen at hn
  have hl := hr.1
  go_enter Try.func76, Try.ntmps76
  go_wp2
  go_loop [9] (fun i => ∃ k : Nat, k ≤ n ∧ i = .int .i64 k ∧ Hid ((xs.take k).all (neB x) = true)) (fun i => n - (intOf i).toNat)
  case atStart => exact ⟨0, Nat.zero_le _, rfl, rfl⟩
  case round =>
    obtain ⟨k, hk, rfl, HA⟩ := hrel
    by_cases hlt : k < n
    · obtain ⟨b, off, y, rfl, _, hy, hc⟩ := hr.atI hlt
      have HY := Lib.hid hy
      clear hy
      by_cases hxy : y = x
      · have HV := Lib.hid hxy
        have hb : (y == x) = true := by simpa using hxy
        clear hxy
        go_wp2
        go_ret
        exact ⟨ret_bool (has_yes (by rw [← HV.out]; exact HY.out)).symm, rfl⟩
      · have HV := Lib.hid (show neB x y = true by simpa [neB] using hxy)
        have hb : (y == x) = false := by simpa using hxy
        clear hxy
        go_wp2
        go_round
        case rel => exact ⟨k + 1, by omega, by go_num, all_snoc HY.out HA.out HV.out⟩
        case measure => simp [intOf]; omega
    · have HE := Lib.hid (has_no (by omega) HA.out)
      go_wp2
      go_ret
      exact ⟨ret_bool HE.out.symm, rfl⟩
/-! ### different indices below a number -/
def newAt (xs : List Int) (m : Int) (k : Nat) : Bool := match xs[k]? with | some x => inB x 0 (m - 1) && !hasI (xs.take k) x | none => true
def newTo (xs : List Int) (m : Int) (k : Nat) : Bool := (List.range k).all (newAt xs m)
def diffB (xs : List Int) (m : Int) : Bool := newTo xs m xs.length
theorem newTo_snoc {xs : List Int} {m : Int} {k : Nat} (h : newTo xs m k = true) (h2 : newAt xs m k = true) : newTo xs m (k + 1) = true := by
  unfold newTo at h ⊢
  rw [List.range_succ, List.all_append, h]
  simpa using h2
theorem diff_no {xs : List Int} {m : Int} {k : Nat} (hk : k < xs.length) (h : newAt xs m k = false) : diffB xs m = false := by
  unfold diffB newTo
  rw [List.all_eq_false]
  exact ⟨k, List.mem_range.2 hk, by simp [h]⟩
theorem diff_end {xs : List Int} {m : Int} {k : Nat} (hk : k = xs.length) (h : newTo xs m k = true) : diffB xs m = true := by
  subst hk
  exact h
theorem newAt_eq {xs : List Int} {m x : Int} {k : Nat} (h : xs[k]? = some x) : newAt xs m k = (inB x 0 (m - 1) && !hasI (xs.take k) x) := by simp [newAt, h]
theorem diff_in {xs : List Int} {m : Int} (h : diffB xs m = true) {k : Nat} {x : Int} (hx : xs[k]? = some x) : 0 ≤ x ∧ x < m := by
  have hk := (List.getElem?_eq_some_iff.1 hx).1
  have h2 := List.all_eq_true.1 h k (List.mem_range.2 hk)
  rw [newAt_eq hx, Bool.and_eq_true] at h2
  have := inB_iff.1 h2.1
  omega
theorem diff_all {xs : List Int} {m : Int} (h : allIn xs 0 (m - 1) = false) : diffB xs m = false := by
  unfold allIn at h
  rw [List.all_eq_false] at h
  obtain ⟨x, hx, hi⟩ := h
  obtain ⟨k, hk⟩ := List.mem_iff_getElem?.1 hx
  exact diff_no (List.getElem?_eq_some_iff.1 hk).1 (by rw [newAt_eq hk]; simp at hi; simp [hi])
theorem allIn_at {xs : List Int} {lo hi : Int} (h : allIn xs lo hi = true) {k : Nat} {x : Int} (hx : xs[k]? = some x) : inB x lo hi = true :=
  List.all_eq_true.1 h x (List.mem_of_getElem? hx)
theorem rd_take {w : World} {B : Nat} {A : Option Addr} {n : Nat} {xs : List Int} (h : Rd cI 1 w B A n xs) {k : Nat} (hk : k ≤ n) : Rd cI 1 w B A k (xs.take k) := by
  have hl := h.1
  refine ⟨by simp; omega, fun h0 => ?_⟩
  obtain ⟨b, off, e, hb, hc⟩ := h.2 (by omega)
  refine ⟨b, off, e, hb, fun i x hx j hj => hc i x ?_ j hj⟩
  rw [List.getElem?_take] at hx
  split at hx
  · exact hx
  · cases hx
/-! ### the set that the call makes -/
theorem plainElem_bool_inv {H : Type} {P : Program} {e : TypeId} (he : P.underlying e = some .bool) {v : Value} {z : DataW H × List MemPlace} (h : plainElem P e v = some z) : ∃ x, v = .bool x ∧ z = (.lit (.bool x), []) := by
  unfold plainElem at h
  rw [he] at h
  cases v <;> simp at h
  exact ⟨_, rfl, h.symm⟩
def seenM (xs : List Int) : Nat → DataW Unit
  | 0 => .map []
  | k + 1 => match xs[k]? with | some x => (seenM xs k).put (.int .i64 x) (.lit (.bool true)) | none => seenM xs k
theorem seenM_snoc {xs : List Int} {k : Nat} {x : Int} (h : xs[k]? = some x) : seenM xs (k + 1) = (seenM xs k).put (.int .i64 x) (.lit (.bool true)) := by rw [seenM, h]
theorem law_int : Keyed Try.prog 3 := int_keyed Try.underlying3
theorem zero_bool (w : World) : (zeroValue 4).run Try.prog w = .ok (.bool false) w := by kernel_rfl
theorem seen_is (xs : List Int) : ∀ k, Maps.IsMap (seenM xs k)
  | 0 => ⟨[], rfl⟩
  | k + 1 => by
    obtain ⟨es, he⟩ := seen_is xs k
    rw [seenM]
    split
    · rw [he]; exact ⟨_, rfl⟩
    · exact ⟨es, he⟩
theorem seen_at (xs : List Int) (x : Int) : ∀ k, k ≤ xs.length → (seenM xs k).atKey (.int .i64 x) (.lit (.bool false)) = .lit (.bool (hasI (xs.take k) x))
  | 0, _ => by simp [seenM, hasI]; rfl
  | k + 1, hk => by
    have hy : xs[k]? = some (xs[k]'(by omega)) := List.getElem?_eq_getElem _
    have ih := seen_at xs x k (by omega)
    rw [seenM_snoc hy, take_snoc hy]
    by_cases h : x = xs[k]'(by omega)
    · rw [← h, Maps.atKey_put_same (seen_is xs k) (by exact trivial)]
      simp [hasI]
    · have hh : hasI (xs.take k ++ [xs[k]'(by omega)]) x = hasI (xs.take k) x := by
        unfold hasI
        simp only [List.mem_append, List.mem_singleton, h, or_false]
      rw [Maps.atKey_put_other (by simpa using h), ih, hh]
set_option maxHeartbeats 1000000 in
theorem isDifferent_any (A : Option Addr) (n c B : Nat) (xs : List Int) (m : Int) (w : World) (hr : Rd cI 1 w B A n xs) (hB : B ≤ w.heap.size) (hn : n ≤ 1048576) (hm0 : 0 ≤ m) (hm1 : m ≤ 1048576) :
    Calls Try.prog 74 #[.slice A n c, .int .i64 m] w fun e w' => e = .returned (.bool (diffB xs m)) ∧ Below w.heap.size w w' := by
  have hl := hr.1
  have hmm := @run_makeMap Try.prog
  go_enter Try.func74, Try.ntmps74
  go_wp2
  go_loopw [11] (fun i wr => ∃ k : Nat, k ≤ n ∧ i = .int .i64 k ∧ wr.ownsMap Try.prog 3 (plainElem Try.prog 4) w.heap.size k (seenM xs k) ∧ Below w.heap.size w wr ∧ Hid (newTo xs m k = true)) (fun i _ => n - (intOf i).toNat)
  case atStart => exact ⟨0, Nat.zero_le _, rfl, World.ownsMap_made _ _ _ _, bl_alloc (Below.refl _ _) _, rfl⟩
  case round =>
    obtain ⟨k, hk, rfl, hown, hb, HA⟩ := hrel
    by_cases hlt : k < n
    · obtain ⟨b, off, x, rfl, hbB, hx, hc⟩ := (hr.below (hb.mono hB)).atI hlt
      have HE := Lib.hid (newAt_eq (m := m) hx)
      have HX := Lib.hid hx
      have HB := Lib.hid hb
      clear hb hx
      rcases hin : inB x 0 (m - 1) with _ | _
      · have HF := Lib.hid (show newAt xs m k = false by rw [HE.out, hin]; rfl)
        go_wp2_with (go_at_call 48; refine (within_any _ _ _ _).mono ?_; rintro e w' ⟨rfl, rfl⟩)
        go_ret
        exact ⟨ret_bool (diff_no (by omega) HF.out).symm, HB.out⟩
      · obtain ⟨x0, x1⟩ := inB_iff.1 hin
        have hkey := keyOf_int_mk (P := Try.prog) Try.underlying3 (q := .i64) (a := x) (WalkArith.wf_i64 (by omega))
        obtain ⟨v, ps, hrun, hv⟩ := hown.lookup law_int Try.underlying84 (zero_bool wr) (plainElem_bool Try.underlying4 false) hkey
        obtain ⟨q, rfl, hq⟩ := plainElem_bool_inv Try.underlying4 hv
        have hq2 : q = hasI (xs.take k) x := by
          rw [seen_at _ _ _ (by omega)] at hq
          simp only [Prod.mk.injEq, DataW.lit.injEq, Lit.bool.injEq] at hq
          exact hq.1.symm
        have HO := Lib.hid hown
        have HK := Lib.hid hkey
        clear hown hv hq hkey
        rcases hh : hasI (xs.take k) x with _ | _
        · have HF := Lib.hid (show newAt xs m k = true by rw [HE.out, hin, hh]; rfl)
          have HS := Lib.hid (seenM_snoc HX.out)
          rw [hh] at hq2
          subst hq2
          clear hh
          go_wp2_with (first | (go_at_call 48; refine (within_any _ _ _ _).mono ?_; rintro e w' ⟨rfl, rfl⟩) | (at_mapUpdate; refine wpList_mapUpdate_own _ rfl _ _ _ 84 rfl 3 4 law_int Try.underlying84 _ w.heap.size k _ rfl HO.out (by unfold maxLen; omega) _ _ _ rfl rfl HK.out _ [] (plainElem_bool Try.underlying4 true) ?_; intro w1 hown1 hgrow1))
          go_roundw
          case rel => exact ⟨k + 1, by omega, by go_num, by rw [HS.out]; exact hown1, HB.out.grown hgrow1 HB.out.size (by intro k hk; simp at hk; omega), newTo_snoc HA.out HF.out⟩
          case measure => simp [intOf]; omega
        · have HF := Lib.hid (show newAt xs m k = false by rw [HE.out, hin, hh]; rfl)
          rw [hh] at hq2
          subst hq2
          clear hh
          go_wp2_with (go_at_call 48; refine (within_any _ _ _ _).mono ?_; rintro e w' ⟨rfl, rfl⟩)
          go_ret
          exact ⟨ret_bool (diff_no (by omega) HF.out).symm, HB.out⟩
    · obtain rfl : k = n := by omega
      have HE := Lib.hid (diff_end (by omega) HA.out)
      go_wp2
      go_ret
      exact ⟨ret_bool HE.out.symm, hb⟩
/-! ### an order of castings -/
def ordB (a b c : Int) (xs : List Cst) (os : List Int) : Bool := machB a b c && (castsB xs && diffB os xs.length)
set_option maxHeartbeats 1000000 in
theorem csAsked_any (a b c : Int) (A A' : Option Addr) (n cp n' cp' B : Nat) (xs : List Cst) (os : List Int) (w : World) (hr : Rd cCst 2 w B A n xs) (hro : Rd cI 1 w B A' n' os) (hB : B ≤ w.heap.size) (hn : n ≤ 1048576) (hn' : n' ≤ 1048576) (hcap : n' ≤ cp') :
    Calls Try.prog 55 #[.agg #[.int .i64 a, .int .i64 b, .int .i64 c], .slice A n cp, .slice A' n' cp'] w fun e w' => e = .returned (.bool (ordB a b c xs os)) ∧ Below w.heap.size w w' := by
  have hl := hr.1
  have hlo := hro.1
  rcases h1 : machB a b c with _ | _
  · have HE := Lib.hid (show ordB a b c xs os = false by simp [ordB, h1])
    have H1 := Lib.hid h1
    clear h1
    go_enter Try.func55, Try.ntmps55
    go_wp2_with fail
    refine (csMachine_any _ _ _ _).mono ?_
    rw [H1.out]
    rintro e w1 ⟨rfl, hb1⟩
    go_wp2
    go_ret
    exact ⟨ret_bool HE.out.symm, by repeat (first | (with_reducible exact Below.refl _ _) | (with_reducible assumption) | (with_reducible refine bl_alloc ?_ _) | (with_reducible refine bl_drew ?_) | (with_reducible refine bl_drewN ?_ _) | ((with_reducible refine bl_set ?_ ?hb _); (case hb => first | (simp; done) | omega | (simp; omega))) | (with_reducible refine bl_trans ?_ (by assumption)))⟩
  · rcases h2 : castsB xs with _ | _
    · have HE := Lib.hid (show ordB a b c xs os = false by simp [ordB, h1, h2])
      have H1 := Lib.hid h1
      have H2 := Lib.hid h2
      clear h1 h2
      go_enter Try.func55, Try.ntmps55
      go_wp2_with fail
      refine (csMachine_any _ _ _ _).mono ?_
      rw [H1.out]
      rintro e w1 ⟨rfl, hb1⟩
      have hB1 : Below w.heap.size w w1 := by repeat (first | (with_reducible exact Below.refl _ _) | (with_reducible assumption) | (with_reducible refine bl_alloc ?_ _) | (with_reducible refine bl_drew ?_) | (with_reducible refine bl_drewN ?_ _) | ((with_reducible refine bl_set ?_ ?hb _); (case hb => first | (simp; done) | omega | (simp; omega))) | (with_reducible refine bl_trans ?_ (by assumption)))
      go_wp2_with fail
      refine (csGood_any _ _ _ _ xs _ (hr.below (hB1.mono hB)) (by have := hB1.size; omega) hn).mono ?_
      rw [H2.out]
      rintro e w2 ⟨rfl, hb2⟩
      go_wp2
      go_ret
      exact ⟨ret_bool HE.out.symm, by repeat (first | (with_reducible exact Below.refl _ _) | (with_reducible assumption) | (with_reducible refine bl_alloc ?_ _) | (with_reducible refine bl_drew ?_) | (with_reducible refine bl_drewN ?_ _) | ((with_reducible refine bl_set ?_ ?hb _); (case hb => first | (simp; done) | omega | (simp; omega))) | (with_reducible refine bl_trans ?_ (by assumption)))⟩
    · have HE := Lib.hid (show ordB a b c xs os = diffB os xs.length by simp [ordB, h1, h2])
      have H1 := Lib.hid h1
      have H2 := Lib.hid h2
      clear h1 h2
      rcases h3 : allIn os 0 ((n : Int) - 1) with _ | _
      · have HF := Lib.hid (show diffB os xs.length = false from diff_all (by rw [hl]; exact h3))
        have H3 := Lib.hid h3
        clear h3
        go_enter Try.func55, Try.ntmps55
        go_wp2_with fail
        refine (csMachine_any _ _ _ _).mono ?_
        rw [H1.out]
        rintro e w1 ⟨rfl, hb1⟩
        have hB1 : Below w.heap.size w w1 := by repeat (first | (with_reducible exact Below.refl _ _) | (with_reducible assumption) | (with_reducible refine bl_alloc ?_ _) | (with_reducible refine bl_drew ?_) | (with_reducible refine bl_drewN ?_ _) | ((with_reducible refine bl_set ?_ ?hb _); (case hb => first | (simp; done) | omega | (simp; omega))) | (with_reducible refine bl_trans ?_ (by assumption)))
        go_wp2_with fail
        refine (csGood_any _ _ _ _ xs _ (hr.below (hB1.mono hB)) (by have := hB1.size; omega) hn).mono ?_
        rw [H2.out]
        rintro e w2 ⟨rfl, hb2⟩
        have hB2 : Below w.heap.size w w2 := by repeat (first | (with_reducible exact Below.refl _ _) | (with_reducible assumption) | (with_reducible refine bl_alloc ?_ _) | (with_reducible refine bl_drew ?_) | (with_reducible refine bl_drewN ?_ _) | ((with_reducible refine bl_set ?_ ?hb _); (case hb => first | (simp; done) | omega | (simp; omega))) | (with_reducible refine bl_trans ?_ (by assumption)))
        go_wp2_with (go_at_call 72; refine (l1All_any _ _ _ _ os _ _ _ (hro.below (hB2.mono hB)) (by unfold maxLen; omega)).mono ?_; rw [H3.out]; rintro e w' ⟨rfl, rfl⟩)
        go_ret
        exact ⟨ret_bool (by rw [HE.out, HF.out]), by repeat (first | (with_reducible exact Below.refl _ _) | (with_reducible assumption) | (with_reducible refine bl_alloc ?_ _) | (with_reducible refine bl_drew ?_) | (with_reducible refine bl_drewN ?_ _) | ((with_reducible refine bl_set ?_ ?hb _); (case hb => first | (simp; done) | omega | (simp; omega))) | (with_reducible refine bl_trans ?_ (by assumption)))⟩
      · have H3 := Lib.hid h3
        clear h3
        go_enter Try.func55, Try.ntmps55
        go_wp2_with fail
        refine (csMachine_any _ _ _ _).mono ?_
        rw [H1.out]
        rintro e w1 ⟨rfl, hb1⟩
        have hB1 : Below w.heap.size w w1 := by repeat (first | (with_reducible exact Below.refl _ _) | (with_reducible assumption) | (with_reducible refine bl_alloc ?_ _) | (with_reducible refine bl_drew ?_) | (with_reducible refine bl_drewN ?_ _) | ((with_reducible refine bl_set ?_ ?hb _); (case hb => first | (simp; done) | omega | (simp; omega))) | (with_reducible refine bl_trans ?_ (by assumption)))
        go_wp2_with fail
        refine (csGood_any _ _ _ _ xs _ (hr.below (hB1.mono hB)) (by have := hB1.size; omega) hn).mono ?_
        rw [H2.out]
        rintro e w2 ⟨rfl, hb2⟩
        have hB2 : Below w.heap.size w w2 := by repeat (first | (with_reducible exact Below.refl _ _) | (with_reducible assumption) | (with_reducible refine bl_alloc ?_ _) | (with_reducible refine bl_drew ?_) | (with_reducible refine bl_drewN ?_ _) | ((with_reducible refine bl_set ?_ ?hb _); (case hb => first | (simp; done) | omega | (simp; omega))) | (with_reducible refine bl_trans ?_ (by assumption)))
        have hr2 := hro.below (hB2.mono hB)
        go_wp2_with (go_at_call 72; refine (l1All_any _ _ _ _ os _ _ _ hr2 (by unfold maxLen; omega)).mono ?_; rw [H3.out]; rintro e w' ⟨rfl, rfl⟩)
        go_loop [27] (fun i => ∃ k : Nat, k ≤ n' ∧ i = .int .i64 k ∧ Hid (newTo os n k = true)) (fun i => n' - (intOf i).toNat)
        case atStart => exact ⟨0, Nat.zero_le _, rfl, rfl⟩
        case round =>
          obtain ⟨k, hk, rfl, HA⟩ := hrel
          by_cases hlt : k < n'
          · obtain ⟨b, off, x, rfl, hbB, hx, hc⟩ := hr2.atI hlt
            have HT := Lib.hid (rd_take hr2 hk)
            have HEA := Lib.hid (show newAt os n k = !hasI (os.take k) x by rw [newAt_eq hx, allIn_at H3.out hx, Bool.true_and])
            clear hx
            have k0 : (0 : Int) ≤ (k : Int) := by omega
            have k1 : (k : Int) ≤ (cp' : Int) := by omega
            rcases hh : hasI (os.take k) x with _ | _
            · have HF := Lib.hid (show newAt os n k = true by rw [HEA.out, hh]; rfl)
              have HH := Lib.hid hh
              clear hh
              go_wp2_with (go_at_call 73; refine (l1Has_any _ _ _ _ (os.take k) x _ HT.out (by unfold maxLen; omega)).mono ?_; rw [HH.out]; rintro e w' ⟨rfl, rfl⟩)
              go_round
              case rel => exact ⟨k + 1, by omega, by go_num, newTo_snoc HA.out HF.out⟩
              case measure => simp [intOf]; omega
            · have HF := Lib.hid (show newAt os n k = false by rw [HEA.out, hh]; rfl)
              have HH := Lib.hid hh
              clear hh
              go_wp2_with (go_at_call 73; refine (l1Has_any _ _ _ _ (os.take k) x _ HT.out (by unfold maxLen; omega)).mono ?_; rw [HH.out]; rintro e w' ⟨rfl, rfl⟩)
              go_ret
              exact ⟨ret_bool (by rw [HE.out, hl]; exact (diff_no (by omega) HF.out).symm), hB2⟩
          · have HF := Lib.hid (diff_end (by omega) HA.out)
            go_wp2
            go_ret
            exact ⟨ret_bool (by rw [HE.out, hl]; exact HF.out.symm), hB2⟩
set_option maxHeartbeats 1000000 in
theorem isCastOrder_any (a b c : Int) (A A' : Option Addr) (n cp n' cp' B : Nat) (xs : List Cst) (os : List Int) (w : World) (hr : Rd cCst 2 w B A n xs) (hro : Rd cI 1 w B A' n' os) (hB : B ≤ w.heap.size) (hn : n ≤ 1048576) (hn' : n' ≤ 1048576) :
    Calls Try.prog 57 #[.agg #[.int .i64 a, .int .i64 b, .int .i64 c], .slice A n cp, .slice A' n' cp'] w fun e w' => e = .returned (.bool (ordB a b c xs os)) ∧ Below w.heap.size w w' := by
  have hl := hr.1
  rcases h1 : machB a b c with _ | _
  · have HE := Lib.hid (show ordB a b c xs os = false by simp [ordB, h1])
    have H1 := Lib.hid h1
    clear h1
    go_enter Try.func57, Try.ntmps57
    go_wp2_with fail
    refine (implIsMachine_any _ _ _ _).mono ?_
    rw [H1.out]
    rintro e w1 ⟨rfl, hb1⟩
    go_wp2
    go_ret
    exact ⟨ret_bool HE.out.symm, by repeat (first | (with_reducible exact Below.refl _ _) | (with_reducible assumption) | (with_reducible refine bl_alloc ?_ _) | (with_reducible refine bl_drew ?_) | (with_reducible refine bl_drewN ?_ _) | ((with_reducible refine bl_set ?_ ?hb _); (case hb => first | (simp; done) | omega | (simp; omega))) | (with_reducible refine bl_trans ?_ (by assumption)))⟩
  · rcases h2 : castsB xs with _ | _
    all_goals
      have HE := Lib.hid (show ordB a b c xs os = (castsB xs && diffB os xs.length) by simp [ordB, h1])
      have H1 := Lib.hid h1
      have H2 := Lib.hid h2
      clear h1 h2
      go_enter Try.func57, Try.ntmps57
      go_wp2_with fail
      refine (implIsMachine_any _ _ _ _).mono ?_
      rw [H1.out]
      rintro e w1 ⟨rfl, hb1⟩
      have hB1 : Below w.heap.size w w1 := by repeat (first | (with_reducible exact Below.refl _ _) | (with_reducible assumption) | (with_reducible refine bl_alloc ?_ _) | (with_reducible refine bl_drew ?_) | (with_reducible refine bl_drewN ?_ _) | ((with_reducible refine bl_set ?_ ?hb _); (case hb => first | (simp; done) | omega | (simp; omega))) | (with_reducible refine bl_trans ?_ (by assumption)))
      go_wp2_with fail
      refine (implAreCastings_any _ _ _ _ xs _ (hr.below (hB1.mono hB)) (by have := hB1.size; omega) hn).mono ?_
      rw [H2.out]
      rintro e w2 ⟨rfl, hb2⟩
      have hB2 : Below w.heap.size w w2 := by repeat (first | (with_reducible exact Below.refl _ _) | (with_reducible assumption) | (with_reducible refine bl_alloc ?_ _) | (with_reducible refine bl_drew ?_) | (with_reducible refine bl_drewN ?_ _) | ((with_reducible refine bl_set ?_ ?hb _); (case hb => first | (simp; done) | omega | (simp; omega))) | (with_reducible refine bl_trans ?_ (by assumption)))
      go_wp2_with (go_at_call 74; refine (isDifferent_any _ _ _ _ os _ _ (hro.below (hB2.mono hB)) (by have := hB2.size; omega) hn' (by omega) (by omega)).mono ?_; rintro e w3 ⟨rfl, hb3⟩)
      go_ret
      exact ⟨ret_bool (by rw [HE.out, H2.out, hl]; rfl), by repeat (first | (with_reducible exact Below.refl _ _) | (with_reducible assumption) | (with_reducible refine bl_alloc ?_ _) | (with_reducible refine bl_drew ?_) | (with_reducible refine bl_drewN ?_ _) | ((with_reducible refine bl_set ?_ ?hb _); (case hb => first | (simp; done) | omega | (simp; omega))) | (with_reducible refine bl_trans ?_ (by assumption)))⟩
end Go.Proofs.Ytabmhmbmdegoaaa
