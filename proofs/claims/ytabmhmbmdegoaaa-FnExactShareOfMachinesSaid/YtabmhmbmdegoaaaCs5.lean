/-
  How many castings are done, the mean of the ends: contracts of both sides.
-/
import Derived.Test.YtabmhmbmdegoaaaCs4
namespace Go.Proofs.Ytabmhmbmdegoaaa
open Go.RowKit
set_option linter.unusedVariables false
attribute [local go_sem ↓] Go.wp_at_zero Go.wp_at_succ

theorem csStep_in {h c M : Int} {x : Cst} {s : CsSt} (hs : ∀ y ∈ s.l, 0 ≤ y ∧ y ≤ M) (h0 : 0 ≤ (csStep h c x s).t) (h1 : (csStep h c x s).t ≤ M) : ∀ y ∈ (csStep h c x s).l, 0 ≤ y ∧ y ≤ M := by
  by_cases hb : x.b = s.b
  · rw [csStep_eq hb] at h0 h1 ⊢
    intro y hy
    rcases List.mem_append.1 hy with h' | h'
    · exact hs y h'
    · obtain rfl : y = _ := by simpa using h'
      exact ⟨h0, h1⟩
  · rw [csStep_ne hb] at h0 h1 ⊢
    intro y hy
    rcases List.mem_append.1 hy with h' | h'
    · exact hs y h'
    · obtain rfl : y = _ := by simpa using h'
      exact ⟨h0, h1⟩
theorem csTo_in (h c : Int) (xs : List Cst) (os : List Int) (a : Int) {M : Int} (hh : ∀ k, k ≤ os.length → (csTo h c xs os a k).t ≤ M) (h0 : ∀ k, 0 ≤ (csTo h c xs os a k).t) : ∀ k, k ≤ os.length → ∀ x ∈ (csTo h c xs os a k).l, 0 ≤ x ∧ x ≤ M
  | 0, _ => by simp [csTo]
  | k + 1, hk => by
    have ih := csTo_in h c xs os a hh h0 k (by omega)
    have hM := hh (k + 1) hk
    have h1 := h0 (k + 1)
    have e : csTo h c xs os a (k + 1) = csTo h c xs os a k ∨ ∃ x, csTo h c xs os a (k + 1) = csStep h c x (csTo h c xs os a k) := by
      rw [csTo]
      split
      · split
        · exact .inr ⟨_, rfl⟩
        · exact .inl rfl
      · exact .inl rfl
    rcases e with e | ⟨x, e⟩
    · rw [e]; exact ih
    · rw [e] at hM h1 ⊢
      exact csStep_in ih h1 hM
theorem csTo_len {h c a : Int} {xs : List Cst} {os : List Int} (hd : diffB os xs.length = true) : ∀ k, k ≤ os.length → (csTo h c xs os a k).l.length = k
  | 0, _ => rfl
  | k + 1, hk => by
    have ih := csTo_len (h := h) (c := c) (a := a) hd k (by omega)
    have hi : os[k]? = some (os[k]'(by omega)) := List.getElem?_eq_getElem _
    obtain ⟨i0, i1⟩ := diff_in hd hi
    have hx : xs[(os[k]'(by omega)).toNat]? = some (xs[(os[k]'(by omega)).toNat]'(by omega)) := List.getElem?_eq_getElem _
    rw [csTo, hi]
    simp only [hx]
    unfold csStep
    split <;> simp [ih]
/-- what holds of the ends of a valid order -/
theorem ends_bd {a h c : Int} {xs : List Cst} {os : List Int} (hb : ordB a h c xs os = true) (hn : os.length ≤ 1048576) : (csTo h c xs os a os.length).l.length = os.length ∧ ∀ x ∈ (csTo h c xs os a os.length).l, 0 ≤ x ∧ x ≤ 6300000000000 := by
  obtain ⟨g1, g2, g3⟩ := ord_in hb
  refine ⟨csTo_len g3 _ (Nat.le_refl _), csTo_in h c xs os a (fun k hk => ?_) (fun k => ?_) _ (Nat.le_refl _)⟩
  · obtain ⟨_, ⟨_, t1⟩, _⟩ := csTo_ok (os := os) g1 g2 k
    omega
  · exact (csTo_ok (os := os) g1 g2 k).2.1.1
def sumTo (xs : List Int) (k : Nat) : Int := (xs.take k).foldl (· + ·) 0
def sumL (xs : List Int) : Int := sumTo xs xs.length
theorem sumTo_snoc {xs : List Int} {k : Nat} {x : Int} (h : xs[k]? = some x) : sumTo xs (k + 1) = sumTo xs k + x := by
  unfold sumTo
  rw [take_snoc h, List.foldl_append]
  rfl
theorem sumTo_bd {xs : List Int} (h : ∀ x ∈ xs, 0 ≤ x ∧ x ≤ 6300000000000) : ∀ k, k ≤ xs.length → 0 ≤ sumTo xs k ∧ sumTo xs k ≤ 6300000000000 * (k : Int)
  | 0, _ => by simp [sumTo]
  | k + 1, hk => by
    have h1 := sumTo_bd h k (by omega)
    have hx : xs[k]? = some (xs[k]'(by omega)) := List.getElem?_eq_getElem _
    have h2 := h _ (List.mem_of_getElem? hx)
    rw [sumTo_snoc hx]
    omega
set_option maxHeartbeats 1000000 in
theorem sum_any (A : Option Addr) (n c B : Nat) (xs : List Int) (w : World) (hr : Rd cI 1 w B A n xs) (hn : n ≤ 1048576) (hb : ∀ x ∈ xs, 0 ≤ x ∧ x ≤ 6300000000000) :
    Calls Try.prog 59 #[.slice A n c] w fun e w' => e = .returned (.int .i64 (sumL xs)) ∧ w = w' := by
  have hl := hr.1
  have HBD := Lib.hid (sumTo_bd hb)
  have HB := Lib.hid hb
  clear hb
  go_enter Try.func59, Try.ntmps59
  go_wp2
  go_loop [3, 8] (fun q i => ∃ k : Nat, k ≤ n ∧ i = .int .i64 k ∧ q = .int .i64 (sumTo xs k)) (fun _ i => n - (intOf i).toNat)
  case atStart => exact ⟨0, Nat.zero_le _, rfl, rfl⟩
  case round =>
    obtain ⟨k, hk, rfl, rfl⟩ := hrel
    by_cases hlt : k < n
    · obtain ⟨b, off, x, rfl, _, hx, hc⟩ := hr.atI hlt
      have hs1 := HBD.out k (by omega)
      have hs2 := HB.out x (List.mem_of_getElem? hx)
      have HX := Lib.hid hx
      clear hx
      go_wp2
      go_round
      case rel => exact ⟨k + 1, by omega, by go_num, by rw [sumTo_snoc HX.out]⟩
      case measure => simp [intOf]; omega
    · go_wp2
      go_ret
      obtain rfl : k = n := by omega
      exact ⟨ret_int (by rw [sumL, hl]), rfl⟩
def cntTo (xs : List Int) (m : Int) (k : Nat) : Nat := ((xs.take k).filter (fun x => decide (x ≤ m))).length
theorem cntTo_yes {xs : List Int} {m x : Int} {k : Nat} (h : xs[k]? = some x) (hx : x ≤ m) : cntTo xs m (k + 1) = cntTo xs m k + 1 := by
  unfold cntTo
  rw [take_snoc h]
  simp [hx]
theorem cntTo_no {xs : List Int} {m x : Int} {k : Nat} (h : xs[k]? = some x) (hx : ¬ x ≤ m) : cntTo xs m (k + 1) = cntTo xs m k := by
  unfold cntTo
  rw [take_snoc h]
  simp [hx]
theorem cntTo_le (xs : List Int) (m : Int) (k : Nat) : cntTo xs m k ≤ k := by
  unfold cntTo
  have := List.length_filter_le (fun x => decide (x ≤ m)) (xs.take k)
  have := List.length_take_le k xs
  omega
theorem csMinutes_any (a : Int) (w : World) : Calls Try.prog 62 #[.int .i64 a] w fun e w' => e = .returned (.bool (inB a 0 100000)) ∧ w = w' := by
  go_enter Try.func62, Try.ntmps62
  go_wp2_with (go_at_call 71; refine (l1In_any _ _ _ _).mono ?_; rintro e w' ⟨rfl, rfl⟩)
  go_ret
  exact ⟨rfl, rfl⟩
theorem isMinutes_any (a : Int) (w : World) : Calls Try.prog 63 #[.int .i64 a] w fun e w' => e = .returned (.bool (inB a 0 100000)) ∧ w = w' := by
  go_enter Try.func63, Try.ntmps63
  go_wp2_with (go_at_call 48; refine (within_any _ _ _ _).mono ?_; rintro e w' ⟨rfl, rfl⟩)
  go_ret
  exact ⟨rfl, rfl⟩
def dbB (a h c : Int) (xs : List Cst) (os : List Int) (m : Int) : Bool := ordB a h c xs os && inB m 0 100000
def dbV (a h c : Int) (xs : List Cst) (os : List Int) (m : Int) : Int := cntTo (csTo h c xs os a os.length).l m (csTo h c xs os a os.length).l.length
set_option maxHeartbeats 1000000 in
theorem specDB_any (a h c : Int) (A A' : Option Addr) (n cp n' cp' : Nat) (xs : List Cst) (os : List Int) (m : Int) (w : World) (ho : Ord w A A' n n' cp' xs os) :
    Calls Try.prog 33 #[.agg #[.int .i64 a, .int .i64 h, .int .i64 c], .slice A n cp, .slice A' n' cp', .int .i64 m] w (PairB (oV (dbB a h c xs os m) (dbV a h c xs os m)) (dbB a h c xs os m) w) := by
  have HA := Lib.hid (fun (W : World) (hb : Below w.heap.size w W) => askS_any a h c A A' n cp n' cp' xs os W (ho.below hb))
  rcases hB : ordB a h c xs os with _ | _
  · have HF := Lib.hid (show dbB a h c xs os m = false by simp [dbB, hB])
    rw [hB] at HA
    go_enter Try.func33, Try.ntmps33
    go_wp2_with fail
    refine (HA.out _ ?_).mono ?_
    · exact by repeat (first | (with_reducible exact Below.refl _ _) | (with_reducible assumption) | (with_reducible refine bl_alloc ?_ _) | (with_reducible refine bl_drew ?_) | (with_reducible refine bl_drewN ?_ _) | ((with_reducible refine bl_set ?_ ?hb _); (case hb => first | (simp; done) | omega | (simp; omega))) | (with_reducible refine bl_trans ?_ (by assumption)))
    rintro e w1 ⟨rfl, hb⟩
    go_wp2
    go_ret2
    exact pair_b (oV_no HF.out).symm HF.out.symm (by repeat (first | (with_reducible exact Below.refl _ _) | (with_reducible assumption) | (with_reducible refine bl_alloc ?_ _) | (with_reducible refine bl_drew ?_) | (with_reducible refine bl_drewN ?_ _) | ((with_reducible refine bl_set ?_ ?hb _); (case hb => first | (simp; done) | omega | (simp; omega))) | (with_reducible refine bl_trans ?_ (by assumption))))
  · rcases hM : inB m 0 100000 with _ | _
    · have HF := Lib.hid (show dbB a h c xs os m = false by simp [dbB, hM])
      have HM := Lib.hid hM
      rw [hB] at HA
      clear hM
      go_enter Try.func33, Try.ntmps33
      go_wp2_with fail
      refine (HA.out _ ?_).mono ?_
      · exact by repeat (first | (with_reducible exact Below.refl _ _) | (with_reducible assumption) | (with_reducible refine bl_alloc ?_ _) | (with_reducible refine bl_drew ?_) | (with_reducible refine bl_drewN ?_ _) | ((with_reducible refine bl_set ?_ ?hb _); (case hb => first | (simp; done) | omega | (simp; omega))) | (with_reducible refine bl_trans ?_ (by assumption)))
      rintro e w1 ⟨rfl, hb⟩
      go_wp2_with (go_at_call 62; refine (csMinutes_any _ _).mono ?_; rw [HM.out]; rintro e w' ⟨rfl, rfl⟩)
      go_ret2
      exact pair_b (oV_no HF.out).symm HF.out.symm (by repeat (first | (with_reducible exact Below.refl _ _) | (with_reducible assumption) | (with_reducible refine bl_alloc ?_ _) | (with_reducible refine bl_drew ?_) | (with_reducible refine bl_drewN ?_ _) | ((with_reducible refine bl_set ?_ ?hb _); (case hb => first | (simp; done) | omega | (simp; omega))) | (with_reducible refine bl_trans ?_ (by assumption))))
    · have HF := Lib.hid (show dbB a h c xs os m = true by simp [dbB, hM, hB])
      have HM := Lib.hid hM
      have HE := Lib.hid (fun (W : World) (hb : Below w.heap.size w W) => endS_any a h c A A' n cp n' cp' xs os W (ho.below hb) hB)
      have hos : os.length ≤ 1048576 := by have := ho.2.1.1; have := ho.2.2.2.1; omega
      obtain ⟨hlen, hin⟩ := ends_bd hB hos
      have HV := Lib.hid (show dbV a h c xs os m = ((cntTo (csTo h c xs os a os.length).l m (csTo h c xs os a os.length).l.length : Nat) : Int) from rfl)
      rw [hB] at HA
      clear hM hB
      obtain ⟨S, hS⟩ : ∃ S, csTo h c xs os a os.length = S := ⟨_, rfl⟩
      rw [hS] at HE hlen hin HV
      clear hS
      rcases S with ⟨qb, qt, qc, ql⟩
      dsimp only at HE hlen hin HV
      have HIN := Lib.hid hin
      have HC := Lib.hid (cntTo_le ql m)
      have hql : ql.length ≤ 1048576 := by omega
      clear hin hlen
      go_enter Try.func33, Try.ntmps33
      go_wp2_with fail
      refine (HA.out _ ?_).mono ?_
      · exact by repeat (first | (with_reducible exact Below.refl _ _) | (with_reducible assumption) | (with_reducible refine bl_alloc ?_ _) | (with_reducible refine bl_drew ?_) | (with_reducible refine bl_drewN ?_ _) | ((with_reducible refine bl_set ?_ ?hb _); (case hb => first | (simp; done) | omega | (simp; omega))) | (with_reducible refine bl_trans ?_ (by assumption)))
      rintro e w1 ⟨rfl, hb⟩
      obtain ⟨hc0, hf0, hz0⟩ := bl_at hb (k := w.heap.size) (by first | assumption | (simp; done) | (simp; omega))
      go_wp2_with (go_at_call 62; refine (csMinutes_any _ _).mono ?_; rw [HM.out]; rintro e w' ⟨rfl, rfl⟩)
      refine (HE.out _ ?_).mono ?_
      · exact by repeat (first | (with_reducible exact Below.refl _ _) | (with_reducible assumption) | (with_reducible refine bl_alloc ?_ _) | (with_reducible refine bl_drew ?_) | (with_reducible refine bl_drewN ?_ _) | ((with_reducible refine bl_set ?_ ?hb _); (case hb => first | (simp; done) | omega | (simp; omega))) | (with_reducible refine bl_trans ?_ (by assumption)))
      rintro e w2 ⟨A1, c1, rfl, hw1, hb2⟩
      have hrd := hw1.rd
      have HB2 := Lib.hid (show Below w.heap.size w w2 from by repeat (first | (with_reducible exact Below.refl _ _) | (with_reducible assumption) | (with_reducible refine bl_alloc ?_ _) | (with_reducible refine bl_drew ?_) | (with_reducible refine bl_drewN ?_ _) | ((with_reducible refine bl_set ?_ ?hb _); (case hb => first | (simp; done) | omega | (simp; omega))) | (with_reducible refine bl_trans ?_ (by assumption))))
      clear hw1 hb hb2 hc0 hf0 hz0
      go_wp2
      go_loop [10, 34] (fun q i => ∃ k : Nat, k ≤ ql.length ∧ i = .int .i64 k ∧ q = .int .i64 (cntTo ql m k : Nat)) (fun _ i => ql.length - (intOf i).toNat)
      case atStart => exact ⟨0, Nat.zero_le _, rfl, by simp [cntTo]⟩
      case round =>
        obtain ⟨k, hk, rfl, rfl⟩ := hrel
        by_cases hlt : k < ql.length
        · obtain ⟨b, off, x, rfl, _, hx, hcx⟩ := hrd.atI hlt
          have hcb := HC.out k
          by_cases hxm : x ≤ m
          · have HY := Lib.hid (cntTo_yes hx hxm)
            clear hx
            go_wp2
            go_round
            case rel => exact ⟨k + 1, by omega, by go_num, by rw [HY.out]; go_num⟩
            case measure => simp [intOf]; omega
          · have HY := Lib.hid (cntTo_no hx hxm)
            clear hx
            go_wp2
            go_round
            case rel => exact ⟨k + 1, by omega, by go_num, by rw [HY.out]⟩
            case measure => simp [intOf]; omega
        · obtain rfl : k = ql.length := by omega
          go_wp2
          go_ret2
          exact pair_b (by rw [oV_yes HF.out, HV.out]) HF.out.symm HB2.out
set_option maxHeartbeats 1000000 in
theorem implDB_any (a h c : Int) (A A' : Option Addr) (n cp n' cp' : Nat) (xs : List Cst) (os : List Int) (m : Int) (w : World) (ho : Ord w A A' n n' cp' xs os) :
    Calls Try.prog 34 #[.agg #[.int .i64 a, .int .i64 h, .int .i64 c], .slice A n cp, .slice A' n' cp', .int .i64 m] w (PairB (oV (dbB a h c xs os m) (dbV a h c xs os m)) (dbB a h c xs os m) w) := by
  have HA := Lib.hid (fun (W : World) (hb : Below w.heap.size w W) => askI_any a h c A A' n cp n' cp' xs os W (ho.below hb))
  rcases hB : ordB a h c xs os with _ | _
  · have HF := Lib.hid (show dbB a h c xs os m = false by simp [dbB, hB])
    rw [hB] at HA
    go_enter Try.func34, Try.ntmps34
    go_wp2_with fail
    refine (HA.out _ ?_).mono ?_
    · exact by repeat (first | (with_reducible exact Below.refl _ _) | (with_reducible assumption) | (with_reducible refine bl_alloc ?_ _) | (with_reducible refine bl_drew ?_) | (with_reducible refine bl_drewN ?_ _) | ((with_reducible refine bl_set ?_ ?hb _); (case hb => first | (simp; done) | omega | (simp; omega))) | (with_reducible refine bl_trans ?_ (by assumption)))
    rintro e w1 ⟨rfl, hb⟩
    go_wp2
    go_ret2
    exact pair_b (oV_no HF.out).symm HF.out.symm (by repeat (first | (with_reducible exact Below.refl _ _) | (with_reducible assumption) | (with_reducible refine bl_alloc ?_ _) | (with_reducible refine bl_drew ?_) | (with_reducible refine bl_drewN ?_ _) | ((with_reducible refine bl_set ?_ ?hb _); (case hb => first | (simp; done) | omega | (simp; omega))) | (with_reducible refine bl_trans ?_ (by assumption))))
  · rcases hM : inB m 0 100000 with _ | _
    · have HF := Lib.hid (show dbB a h c xs os m = false by simp [dbB, hM])
      have HM := Lib.hid hM
      rw [hB] at HA
      clear hM
      go_enter Try.func34, Try.ntmps34
      go_wp2_with fail
      refine (HA.out _ ?_).mono ?_
      · exact by repeat (first | (with_reducible exact Below.refl _ _) | (with_reducible assumption) | (with_reducible refine bl_alloc ?_ _) | (with_reducible refine bl_drew ?_) | (with_reducible refine bl_drewN ?_ _) | ((with_reducible refine bl_set ?_ ?hb _); (case hb => first | (simp; done) | omega | (simp; omega))) | (with_reducible refine bl_trans ?_ (by assumption)))
      rintro e w1 ⟨rfl, hb⟩
      go_wp2_with (go_at_call 63; refine (isMinutes_any _ _).mono ?_; rw [HM.out]; rintro e w' ⟨rfl, rfl⟩)
      go_ret2
      exact pair_b (oV_no HF.out).symm HF.out.symm (by repeat (first | (with_reducible exact Below.refl _ _) | (with_reducible assumption) | (with_reducible refine bl_alloc ?_ _) | (with_reducible refine bl_drew ?_) | (with_reducible refine bl_drewN ?_ _) | ((with_reducible refine bl_set ?_ ?hb _); (case hb => first | (simp; done) | omega | (simp; omega))) | (with_reducible refine bl_trans ?_ (by assumption))))
    · have HF := Lib.hid (show dbB a h c xs os m = true by simp [dbB, hM, hB])
      have HM := Lib.hid hM
      have HE := Lib.hid (fun (W : World) (hb : Below w.heap.size w W) => endI_any a h c A A' n cp n' cp' xs os W (ho.below hb) hB)
      have hos : os.length ≤ 1048576 := by have := ho.2.1.1; have := ho.2.2.2.1; omega
      obtain ⟨hlen, hin⟩ := ends_bd hB hos
      have HV := Lib.hid (show dbV a h c xs os m = ((cntTo (csTo h c xs os a os.length).l m (csTo h c xs os a os.length).l.length : Nat) : Int) from rfl)
      rw [hB] at HA
      clear hM hB
      obtain ⟨S, hS⟩ : ∃ S, csTo h c xs os a os.length = S := ⟨_, rfl⟩
      rw [hS] at HE hlen hin HV
      clear hS
      rcases S with ⟨qb, qt, qc, ql⟩
      dsimp only at HE hlen hin HV
      have HIN := Lib.hid hin
      have HC := Lib.hid (cntTo_le ql m)
      have hql : ql.length ≤ 1048576 := by omega
      clear hin hlen
      go_enter Try.func34, Try.ntmps34
      go_wp2_with fail
      refine (HA.out _ ?_).mono ?_
      · exact by repeat (first | (with_reducible exact Below.refl _ _) | (with_reducible assumption) | (with_reducible refine bl_alloc ?_ _) | (with_reducible refine bl_drew ?_) | (with_reducible refine bl_drewN ?_ _) | ((with_reducible refine bl_set ?_ ?hb _); (case hb => first | (simp; done) | omega | (simp; omega))) | (with_reducible refine bl_trans ?_ (by assumption)))
      rintro e w1 ⟨rfl, hb⟩
      obtain ⟨hc0, hf0, hz0⟩ := bl_at hb (k := w.heap.size) (by first | assumption | (simp; done) | (simp; omega))
      go_wp2_with (go_at_call 63; refine (isMinutes_any _ _).mono ?_; rw [HM.out]; rintro e w' ⟨rfl, rfl⟩)
      refine (HE.out _ ?_).mono ?_
      · exact by repeat (first | (with_reducible exact Below.refl _ _) | (with_reducible assumption) | (with_reducible refine bl_alloc ?_ _) | (with_reducible refine bl_drew ?_) | (with_reducible refine bl_drewN ?_ _) | ((with_reducible refine bl_set ?_ ?hb _); (case hb => first | (simp; done) | omega | (simp; omega))) | (with_reducible refine bl_trans ?_ (by assumption)))
      rintro e w2 ⟨A1, c1, rfl, hw1, hb2⟩
      have hrd := hw1.rd
      have HB2 := Lib.hid (show Below w.heap.size w w2 from by repeat (first | (with_reducible exact Below.refl _ _) | (with_reducible assumption) | (with_reducible refine bl_alloc ?_ _) | (with_reducible refine bl_drew ?_) | (with_reducible refine bl_drewN ?_ _) | ((with_reducible refine bl_set ?_ ?hb _); (case hb => first | (simp; done) | omega | (simp; omega))) | (with_reducible refine bl_trans ?_ (by assumption))))
      clear hw1 hb hb2 hc0 hf0 hz0
      go_wp2
      go_loop [10, 34] (fun q i => ∃ k : Nat, k ≤ ql.length ∧ i = .int .i64 k ∧ q = .int .i64 (cntTo ql m k : Nat)) (fun _ i => ql.length - (intOf i).toNat)
      case atStart => exact ⟨0, Nat.zero_le _, rfl, by simp [cntTo]⟩
      case round =>
        obtain ⟨k, hk, rfl, rfl⟩ := hrel
        by_cases hlt : k < ql.length
        · obtain ⟨b, off, x, rfl, _, hx, hcx⟩ := hrd.atI hlt
          have hcb := HC.out k
          by_cases hxm : x ≤ m
          · have HY := Lib.hid (cntTo_yes hx hxm)
            clear hx
            go_wp2
            go_round
            case rel => exact ⟨k + 1, by omega, by go_num, by rw [HY.out]; go_num⟩
            case measure => simp [intOf]; omega
          · have HY := Lib.hid (cntTo_no hx hxm)
            clear hx
            go_wp2
            go_round
            case rel => exact ⟨k + 1, by omega, by go_num, by rw [HY.out]⟩
            case measure => simp [intOf]; omega
        · obtain rfl : k = ql.length := by omega
          go_wp2
          go_ret2
          exact pair_b (by rw [oV_yes HF.out, HV.out]) HF.out.symm HB2.out
def meB (a h c : Int) (xs : List Cst) (os : List Int) : Bool := ordB a h c xs os && !decide (os.length = 0)
/-- returns two numbers and a bool -/
def TripB (p q : Int) (b : Bool) (w : World) (e : Ending) (w' : World) : Prop := e = .returned (.tuple #[.int .i64 p, .int .i64 q, .bool b]) ∧ Below w.heap.size w w'
theorem trip_b {p q x y : Int} {b c : Bool} {w w' : World} (h1 : p = x) (h2 : q = y) (h : b = c) (hb : Below w.heap.size w w') : TripB x y c w (.returned (.tuple #[.int .i64 p, .int .i64 q, .bool b])) w' := by
  subst h1 h2 h; exact ⟨rfl, hb⟩
set_option maxHeartbeats 1000000 in
theorem specME_any (a h c : Int) (A A' : Option Addr) (n cp n' cp' : Nat) (xs : List Cst) (os : List Int) (w : World) (ho : Ord w A A' n n' cp' xs os) :
    Calls Try.prog 29 #[.agg #[.int .i64 a, .int .i64 h, .int .i64 c], .slice A n cp, .slice A' n' cp'] w (TripB (oV (meB a h c xs os) (sumL (csTo h c xs os a os.length).l)) (oV (meB a h c xs os) os.length) (meB a h c xs os) w) := by
  have HA := Lib.hid (fun (W : World) (hb : Below w.heap.size w W) => askS_any a h c A A' n cp n' cp' xs os W (ho.below hb))
  have hlo := ho.2.1.1
  have hn1 := ho.2.2.2.1
  rcases hB : ordB a h c xs os with _ | _
  · have HF := Lib.hid (show meB a h c xs os = false by simp [meB, hB])
    rw [hB] at HA
    go_enter Try.func29, Try.ntmps29
    go_wp2_with fail
    refine (HA.out _ ?_).mono ?_
    · exact by repeat (first | (with_reducible exact Below.refl _ _) | (with_reducible assumption) | (with_reducible refine bl_alloc ?_ _) | (with_reducible refine bl_drew ?_) | (with_reducible refine bl_drewN ?_ _) | ((with_reducible refine bl_set ?_ ?hb _); (case hb => first | (simp; done) | omega | (simp; omega))) | (with_reducible refine bl_trans ?_ (by assumption)))
    rintro e w1 ⟨rfl, hb⟩
    go_wp2
    go_ret3
    exact trip_b (oV_no HF.out).symm (oV_no HF.out).symm HF.out.symm (by repeat (first | (with_reducible exact Below.refl _ _) | (with_reducible assumption) | (with_reducible refine bl_alloc ?_ _) | (with_reducible refine bl_drew ?_) | (with_reducible refine bl_drewN ?_ _) | ((with_reducible refine bl_set ?_ ?hb _); (case hb => first | (simp; done) | omega | (simp; omega))) | (with_reducible refine bl_trans ?_ (by assumption))))
  · by_cases h0 : n' = 0
    · have HF := Lib.hid (show meB a h c xs os = false by unfold meB; rw [decide_eq_true (show os.length = 0 by omega)]; simp)
      subst h0
      rw [hB] at HA
      go_enter Try.func29, Try.ntmps29
      go_wp2_with fail
      refine (HA.out _ ?_).mono ?_
      · exact by repeat (first | (with_reducible exact Below.refl _ _) | (with_reducible assumption) | (with_reducible refine bl_alloc ?_ _) | (with_reducible refine bl_drew ?_) | (with_reducible refine bl_drewN ?_ _) | ((with_reducible refine bl_set ?_ ?hb _); (case hb => first | (simp; done) | omega | (simp; omega))) | (with_reducible refine bl_trans ?_ (by assumption)))
      rintro e w1 ⟨rfl, hb⟩
      go_wp2
      go_ret3
      exact trip_b (oV_no HF.out).symm (oV_no HF.out).symm HF.out.symm (by repeat (first | (with_reducible exact Below.refl _ _) | (with_reducible assumption) | (with_reducible refine bl_alloc ?_ _) | (with_reducible refine bl_drew ?_) | (with_reducible refine bl_drewN ?_ _) | ((with_reducible refine bl_set ?_ ?hb _); (case hb => first | (simp; done) | omega | (simp; omega))) | (with_reducible refine bl_trans ?_ (by assumption))))
    · have HF := Lib.hid (show meB a h c xs os = true by unfold meB; rw [hB, decide_eq_false (show ¬ os.length = 0 by omega)]; rfl)
      have hne0 : ((n' : Int) == 0) = false := by simp; omega
      have HE := Lib.hid (fun (W : World) (hb : Below w.heap.size w W) => endS_any a h c A A' n cp n' cp' xs os W (ho.below hb) hB)
      have hos : os.length ≤ 1048576 := by omega
      obtain ⟨hlen, hin⟩ := ends_bd hB hos
      rw [hB] at HA
      clear hB
      obtain ⟨S, hS⟩ : ∃ S, csTo h c xs os a os.length = S := ⟨_, rfl⟩
      rw [hS] at HE hlen hin
      rw [hS]
      clear hS
      rcases S with ⟨qb, qt, qc, ql⟩
      dsimp only at HE hlen hin
      dsimp only
      have HIN := Lib.hid hin
      have HBD := Lib.hid (sumTo_bd hin)
      have hql : ql.length = n' := by omega
      have HLO := Lib.hid hlo
      clear hin hlen hlo
      go_enter Try.func29, Try.ntmps29
      go_wp2_with fail
      refine (HA.out _ ?_).mono ?_
      · exact by repeat (first | (with_reducible exact Below.refl _ _) | (with_reducible assumption) | (with_reducible refine bl_alloc ?_ _) | (with_reducible refine bl_drew ?_) | (with_reducible refine bl_drewN ?_ _) | ((with_reducible refine bl_set ?_ ?hb _); (case hb => first | (simp; done) | omega | (simp; omega))) | (with_reducible refine bl_trans ?_ (by assumption)))
      rintro e w1 ⟨rfl, hb⟩
      obtain ⟨hc0, hf0, hz0⟩ := bl_at hb (k := w.heap.size) (by first | assumption | (simp; done) | (simp; omega))
      go_wp2_with fail
      refine (HE.out _ ?_).mono ?_
      · exact by repeat (first | (with_reducible exact Below.refl _ _) | (with_reducible assumption) | (with_reducible refine bl_alloc ?_ _) | (with_reducible refine bl_drew ?_) | (with_reducible refine bl_drewN ?_ _) | ((with_reducible refine bl_set ?_ ?hb _); (case hb => first | (simp; done) | omega | (simp; omega))) | (with_reducible refine bl_trans ?_ (by assumption)))
      rintro e w2 ⟨A1, c1, he, hw1, hb2⟩
      rw [hql] at he hw1
      subst he
      have hrd := hw1.rd
      have HB2 := Lib.hid (show Below w.heap.size w w2 from by repeat (first | (with_reducible exact Below.refl _ _) | (with_reducible assumption) | (with_reducible refine bl_alloc ?_ _) | (with_reducible refine bl_drew ?_) | (with_reducible refine bl_drewN ?_ _) | ((with_reducible refine bl_set ?_ ?hb _); (case hb => first | (simp; done) | omega | (simp; omega))) | (with_reducible refine bl_trans ?_ (by assumption))))
      have HQ := Lib.hid hql
      clear hw1 hb hb2 hc0 hf0 hz0 hql
      go_wp2
      go_loop [9, 33] (fun q i => ∃ k : Nat, k ≤ n' ∧ i = .int .i64 k ∧ q = .int .i64 (sumTo ql k)) (fun _ i => n' - (intOf i).toNat)
      case atStart => exact ⟨0, Nat.zero_le _, rfl, rfl⟩
      case round =>
        obtain ⟨k, hk, rfl, rfl⟩ := hrel
        by_cases hlt : k < n'
        · obtain ⟨b, off, x, rfl, _, hx, hcx⟩ := hrd.atI hlt
          have hs1 := HBD.out k (by have := HQ.out; omega)
          have hs2 := HIN.out x (List.mem_of_getElem? hx)
          have HX := Lib.hid hx
          clear hx
          go_wp2
          go_round
          case rel => exact ⟨k + 1, by omega, by go_num, by rw [sumTo_snoc HX.out]⟩
          case measure => simp [intOf]; omega
        · obtain rfl : k = n' := by omega
          go_wp2
          go_ret3
          exact trip_b (by rw [oV_yes HF.out, sumL, HQ.out]) (by rw [oV_yes HF.out, HLO.out]) HF.out.symm HB2.out
set_option maxHeartbeats 1000000 in
theorem implME_any (a h c : Int) (A A' : Option Addr) (n cp n' cp' : Nat) (xs : List Cst) (os : List Int) (w : World) (ho : Ord w A A' n n' cp' xs os) :
    Calls Try.prog 30 #[.agg #[.int .i64 a, .int .i64 h, .int .i64 c], .slice A n cp, .slice A' n' cp'] w (TripB (oV (meB a h c xs os) (sumL (csTo h c xs os a os.length).l)) (oV (meB a h c xs os) os.length) (meB a h c xs os) w) := by
  have HA := Lib.hid (fun (W : World) (hb : Below w.heap.size w W) => askI_any a h c A A' n cp n' cp' xs os W (ho.below hb))
  have hlo := ho.2.1.1
  have hn1 := ho.2.2.2.1
  rcases hB : ordB a h c xs os with _ | _
  · have HF := Lib.hid (show meB a h c xs os = false by simp [meB, hB])
    rw [hB] at HA
    go_enter Try.func30, Try.ntmps30
    go_wp2_with fail
    refine (HA.out _ ?_).mono ?_
    · exact by repeat (first | (with_reducible exact Below.refl _ _) | (with_reducible assumption) | (with_reducible refine bl_alloc ?_ _) | (with_reducible refine bl_drew ?_) | (with_reducible refine bl_drewN ?_ _) | ((with_reducible refine bl_set ?_ ?hb _); (case hb => first | (simp; done) | omega | (simp; omega))) | (with_reducible refine bl_trans ?_ (by assumption)))
    rintro e w1 ⟨rfl, hb⟩
    go_wp2
    go_ret3
    exact trip_b (oV_no HF.out).symm (oV_no HF.out).symm HF.out.symm (by repeat (first | (with_reducible exact Below.refl _ _) | (with_reducible assumption) | (with_reducible refine bl_alloc ?_ _) | (with_reducible refine bl_drew ?_) | (with_reducible refine bl_drewN ?_ _) | ((with_reducible refine bl_set ?_ ?hb _); (case hb => first | (simp; done) | omega | (simp; omega))) | (with_reducible refine bl_trans ?_ (by assumption))))
  · by_cases h0 : n' = 0
    · have HF := Lib.hid (show meB a h c xs os = false by unfold meB; rw [decide_eq_true (show os.length = 0 by omega)]; simp)
      subst h0
      rw [hB] at HA
      go_enter Try.func30, Try.ntmps30
      go_wp2_with fail
      refine (HA.out _ ?_).mono ?_
      · exact by repeat (first | (with_reducible exact Below.refl _ _) | (with_reducible assumption) | (with_reducible refine bl_alloc ?_ _) | (with_reducible refine bl_drew ?_) | (with_reducible refine bl_drewN ?_ _) | ((with_reducible refine bl_set ?_ ?hb _); (case hb => first | (simp; done) | omega | (simp; omega))) | (with_reducible refine bl_trans ?_ (by assumption)))
      rintro e w1 ⟨rfl, hb⟩
      go_wp2
      go_ret3
      exact trip_b (oV_no HF.out).symm (oV_no HF.out).symm HF.out.symm (by repeat (first | (with_reducible exact Below.refl _ _) | (with_reducible assumption) | (with_reducible refine bl_alloc ?_ _) | (with_reducible refine bl_drew ?_) | (with_reducible refine bl_drewN ?_ _) | ((with_reducible refine bl_set ?_ ?hb _); (case hb => first | (simp; done) | omega | (simp; omega))) | (with_reducible refine bl_trans ?_ (by assumption))))
    · have HF := Lib.hid (show meB a h c xs os = true by unfold meB; rw [hB, decide_eq_false (show ¬ os.length = 0 by omega)]; rfl)
      have hne0 : ((n' : Int) == 0) = false := by simp; omega
      have HE := Lib.hid (fun (W : World) (hb : Below w.heap.size w W) => endI_any a h c A A' n cp n' cp' xs os W (ho.below hb) hB)
      have hos : os.length ≤ 1048576 := by omega
      obtain ⟨hlen, hin⟩ := ends_bd hB hos
      rw [hB] at HA
      clear hB
      obtain ⟨S, hS⟩ : ∃ S, csTo h c xs os a os.length = S := ⟨_, rfl⟩
      rw [hS] at HE hlen hin
      rw [hS]
      clear hS
      rcases S with ⟨qb, qt, qc, ql⟩
      dsimp only at HE hlen hin
      dsimp only
      have HIN := Lib.hid hin
      have HBD := Lib.hid (sumTo_bd hin)
      have hql : ql.length = n' := by omega
      have HLO := Lib.hid hlo
      clear hin hlen hlo
      go_enter Try.func30, Try.ntmps30
      go_wp2_with fail
      refine (HA.out _ ?_).mono ?_
      · exact by repeat (first | (with_reducible exact Below.refl _ _) | (with_reducible assumption) | (with_reducible refine bl_alloc ?_ _) | (with_reducible refine bl_drew ?_) | (with_reducible refine bl_drewN ?_ _) | ((with_reducible refine bl_set ?_ ?hb _); (case hb => first | (simp; done) | omega | (simp; omega))) | (with_reducible refine bl_trans ?_ (by assumption)))
      rintro e w1 ⟨rfl, hb⟩
      obtain ⟨hc0, hf0, hz0⟩ := bl_at hb (k := w.heap.size) (by first | assumption | (simp; done) | (simp; omega))
      go_wp2_with fail
      refine (HE.out _ ?_).mono ?_
      · exact by repeat (first | (with_reducible exact Below.refl _ _) | (with_reducible assumption) | (with_reducible refine bl_alloc ?_ _) | (with_reducible refine bl_drew ?_) | (with_reducible refine bl_drewN ?_ _) | ((with_reducible refine bl_set ?_ ?hb _); (case hb => first | (simp; done) | omega | (simp; omega))) | (with_reducible refine bl_trans ?_ (by assumption)))
      rintro e w2 ⟨A1, c1, he, hw1, hb2⟩
      rw [hql] at he hw1
      subst he
      have hrd := hw1.rd
      have HB2 := Lib.hid (show Below w.heap.size w w2 from by repeat (first | (with_reducible exact Below.refl _ _) | (with_reducible assumption) | (with_reducible refine bl_alloc ?_ _) | (with_reducible refine bl_drew ?_) | (with_reducible refine bl_drewN ?_ _) | ((with_reducible refine bl_set ?_ ?hb _); (case hb => first | (simp; done) | omega | (simp; omega))) | (with_reducible refine bl_trans ?_ (by assumption))))
      have HQ := Lib.hid hql
      clear hw1 hb hb2 hc0 hf0 hz0 hql
      go_wp2_with (go_at_call 59; refine (sum_any _ _ _ _ ql _ hrd (by omega) HIN.out).mono ?_; rintro e w' ⟨rfl, rfl⟩)
      go_ret3
      exact trip_b (by rw [oV_yes HF.out]) (by rw [oV_yes HF.out, HLO.out]) HF.out.symm HB2.out
end Go.Proofs.Ytabmhmbmdegoaaa
