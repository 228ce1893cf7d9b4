/-
  What is asked of an order of castings: contracts of both sides (ends, time, changes, how many are done, the mean).
-/
import Derived.Test.YtabmhmbmdegoaaaCs3
namespace Go.Proofs.Ytabmhmbmdegoaaa
open Go.RowKit
set_option linter.unusedVariables false
attribute [local go_sem ↓] Go.wp_at_zero Go.wp_at_succ

/-- castings and an order, as they lie in memory -/
def Ord (w : World) (A A' : Option Addr) (n n' cp' : Nat) (xs : List Cst) (os : List Int) : Prop :=
  Rd cCst 2 w w.heap.size A n xs ∧ Rd cI 1 w w.heap.size A' n' os ∧ n ≤ 1048576 ∧ n' ≤ 1048576 ∧ n' ≤ cp'
theorem Ord.below {w w' : World} {A A' : Option Addr} {n n' cp' : Nat} {xs : List Cst} {os : List Int} (h : Ord w A A' n n' cp' xs os) (hb : Below w.heap.size w w') : Ord w' A A' n n' cp' xs os :=
  ⟨(h.1.below hb).more hb.size, (h.2.1.below hb).more hb.size, h.2.2⟩
theorem ord_in {a b c : Int} {xs : List Cst} {os : List Int} (h : ordB a b c xs os = true) : machB a b c = true ∧ (∀ x ∈ xs, castB x = true) ∧ diffB os xs.length = true := by
  unfold ordB at h
  simp only [Bool.and_eq_true] at h
  exact ⟨h.1, casts_each h.2.1, h.2.2⟩
theorem askS_any (a h c : Int) (A A' : Option Addr) (n cp n' cp' : Nat) (xs : List Cst) (os : List Int) (w : World) (ho : Ord w A A' n n' cp' xs os) :
    Calls Try.prog 55 #[.agg #[.int .i64 a, .int .i64 h, .int .i64 c], .slice A n cp, .slice A' n' cp'] w fun e w' => e = .returned (.bool (ordB a h c xs os)) ∧ Below w.heap.size w w' := by
  obtain ⟨h1, h2, h3, h4, h5⟩ := ho
  first
    | exact csAsked_any a h c A A' n cp n' cp' _ xs os w h1 h2 (Nat.le_refl _) h3 h4 h5
    | exact csAsked_any a h c A A' n cp n' cp' _ xs os w h1 h2 (Nat.le_refl _) h3 h4
theorem askI_any (a h c : Int) (A A' : Option Addr) (n cp n' cp' : Nat) (xs : List Cst) (os : List Int) (w : World) (ho : Ord w A A' n n' cp' xs os) :
    Calls Try.prog 57 #[.agg #[.int .i64 a, .int .i64 h, .int .i64 c], .slice A n cp, .slice A' n' cp'] w fun e w' => e = .returned (.bool (ordB a h c xs os)) ∧ Below w.heap.size w w' := by
  obtain ⟨h1, h2, h3, h4, h5⟩ := ho
  first
    | exact isCastOrder_any a h c A A' n cp n' cp' _ xs os w h1 h2 (Nat.le_refl _) h3 h4 h5
    | exact isCastOrder_any a h c A A' n cp n' cp' _ xs os w h1 h2 (Nat.le_refl _) h3 h4
theorem endS_any (a h c : Int) (A A' : Option Addr) (n cp n' cp' : Nat) (xs : List Cst) (os : List Int) (w : World) (ho : Ord w A A' n n' cp' xs os) (hb : ordB a h c xs os = true) :
    Calls Try.prog 56 #[.agg #[.int .i64 a, .int .i64 h, .int .i64 c], .slice A n cp, .slice A' n' cp'] w (RetN (csTo h c xs os a os.length).l (csTo h c xs os a os.length).ch w) := by
  obtain ⟨h1, h2, h3, h4, h5⟩ := ho
  obtain ⟨g1, g2, g3⟩ := ord_in hb
  exact csEnds_any a h c A A' n cp n' cp' _ xs os w h1 h2 (Nat.le_refl _) h3 h4 g1 g2 (fun k x hx => by have := diff_in g3 hx; have := h1.1; omega)
theorem endI_any (a h c : Int) (A A' : Option Addr) (n cp n' cp' : Nat) (xs : List Cst) (os : List Int) (w : World) (ho : Ord w A A' n n' cp' xs os) (hb : ordB a h c xs os = true) :
    Calls Try.prog 58 #[.agg #[.int .i64 a, .int .i64 h, .int .i64 c], .slice A n cp, .slice A' n' cp'] w (RetN (csTo h c xs os a os.length).l (csTo h c xs os a os.length).ch w) := by
  obtain ⟨h1, h2, h3, h4, h5⟩ := ho
  obtain ⟨g1, g2, g3⟩ := ord_in hb
  exact implEnds_any a h c A A' n cp n' cp' _ xs os w h1 h2 (Nat.le_refl _) h3 h4 g1 g2 (fun k x hx => by have := diff_in g3 hx; have := h1.1; omega)
theorem csTo_last (h c : Int) (xs : List Cst) (os : List Int) (a : Int) : ∀ k, ((csTo h c xs os a k).l = [] ∧ (csTo h c xs os a k).t = 0) ∨ ((csTo h c xs os a k).l ≠ [] ∧ (csTo h c xs os a k).l[(csTo h c xs os a k).l.length - 1]? = some (csTo h c xs os a k).t)
  | 0 => .inl ⟨rfl, rfl⟩
  | k + 1 => by
    have ih := csTo_last h c xs os a k
    rw [csTo]
    split
    · split
      · right
        unfold csStep
        split <;> simp
      · exact ih
    · exact ih
set_option maxHeartbeats 1000000 in
theorem csLast_any (a h c : Int) (A A' : Option Addr) (n cp n' cp' : Nat) (xs : List Cst) (os : List Int) (w : World) (ho : Ord w A A' n n' cp' xs os) (hb : ordB a h c xs os = true) :
    Calls Try.prog 60 #[.agg #[.int .i64 a, .int .i64 h, .int .i64 c], .slice A n cp, .slice A' n' cp'] w fun e w' => e = .returned (.int .i64 ((csTo h c xs os a os.length).t)) ∧ Below w.heap.size w w' := by
  have HE := Lib.hid (endS_any a h c A A' n cp n' cp' xs os (w.alloc (.cells #[.int .i64 a, .int .i64 h, .int .i64 c] 25)) (ho.below (by repeat (first | (with_reducible exact Below.refl _ _) | (with_reducible assumption) | (with_reducible refine bl_alloc ?_ _) | (with_reducible refine bl_drew ?_) | (with_reducible refine bl_drewN ?_ _) | ((with_reducible refine bl_set ?_ ?hb _); (case hb => first | (simp; done) | omega | (simp; omega))) | (with_reducible refine bl_trans ?_ (by assumption))))) hb)
  have hla := csTo_last h c xs os a os.length
  obtain ⟨hg1, hg2, _⟩ := ord_in hb
  obtain ⟨_, _, _, hlen⟩ := csTo_ok (os := os) hg1 hg2 os.length
  have hos : os.length ≤ 1048576 := by have := ho.2.1.1; have := ho.2.2.2.1; omega
  obtain ⟨S, hS⟩ : ∃ S, csTo h c xs os a os.length = S := ⟨_, rfl⟩
  rw [hS] at HE hla hlen
  rw [hS]
  clear hS hb hg1 hg2
  rcases S with ⟨qb, qt, qc, ql⟩
  dsimp only at hla HE hlen
  dsimp only
  have HLA := Lib.hid hla
  clear hla
  go_enter Try.func60, Try.ntmps60
  go_wp2_with fail
  refine HE.out.mono ?_
  rintro e w1 ⟨A1, c1, rfl, hw1, hb1⟩
  rcases HLA.out with ⟨h1, h2⟩ | ⟨h1, h2⟩
  · have HT := Lib.hid h2
    subst h1
    clear h2 hw1
    go_wp2
    go_ret
    exact ⟨ret_int HT.out.symm, by repeat (first | (with_reducible exact Below.refl _ _) | (with_reducible assumption) | (with_reducible refine bl_alloc ?_ _) | (with_reducible refine bl_drew ?_) | (with_reducible refine bl_drewN ?_ _) | ((with_reducible refine bl_set ?_ ?hb _); (case hb => first | (simp; done) | omega | (simp; omega))) | (with_reducible refine bl_trans ?_ (by assumption)))⟩
  · have hl0 : 0 < ql.length := List.length_pos_iff.2 h1
    have hne : ((ql.length : Int) == 0) = false := by simp; omega
    obtain ⟨b, off, x, rfl, _, hx, hc⟩ := hw1.rd.atI (show ql.length - 1 < ql.length by omega)
    obtain rfl : x = qt := by rw [h2] at hx; exact (Option.some.inj hx).symm
    have e1 : IntKind.i64.wrap ((ql.length : Int) - 1) = ((ql.length - 1 : Nat) : Int) := by rw [IntWalk.i64_in _ (by omega)]; omega
    have k0 : (0 : Int) ≤ ((ql.length - 1 : Nat) : Int) := by omega
    have k1 : ((ql.length - 1 : Nat) : Int) < (ql.length : Int) := by omega
    clear h1 h2 hx hw1
    go_wp2
    go_ret
    exact ⟨rfl, by repeat (first | (with_reducible exact Below.refl _ _) | (with_reducible assumption) | (with_reducible refine bl_alloc ?_ _) | (with_reducible refine bl_drew ?_) | (with_reducible refine bl_drewN ?_ _) | ((with_reducible refine bl_set ?_ ?hb _); (case hb => first | (simp; done) | omega | (simp; omega))) | (with_reducible refine bl_trans ?_ (by assumption)))⟩
set_option maxHeartbeats 1000000 in
theorem implTime_any (a h c : Int) (A A' : Option Addr) (n cp n' cp' : Nat) (xs : List Cst) (os : List Int) (w : World) (ho : Ord w A A' n n' cp' xs os) (hb : ordB a h c xs os = true) :
    Calls Try.prog 61 #[.agg #[.int .i64 a, .int .i64 h, .int .i64 c], .slice A n cp, .slice A' n' cp'] w fun e w' => e = .returned (.int .i64 ((csTo h c xs os a os.length).t)) ∧ Below w.heap.size w w' := by
  have HE := Lib.hid (endI_any a h c A A' n cp n' cp' xs os (w.alloc (.cells #[.int .i64 a, .int .i64 h, .int .i64 c] 25)) (ho.below (by repeat (first | (with_reducible exact Below.refl _ _) | (with_reducible assumption) | (with_reducible refine bl_alloc ?_ _) | (with_reducible refine bl_drew ?_) | (with_reducible refine bl_drewN ?_ _) | ((with_reducible refine bl_set ?_ ?hb _); (case hb => first | (simp; done) | omega | (simp; omega))) | (with_reducible refine bl_trans ?_ (by assumption))))) hb)
  have hla := csTo_last h c xs os a os.length
  obtain ⟨hg1, hg2, _⟩ := ord_in hb
  obtain ⟨_, _, _, hlen⟩ := csTo_ok (os := os) hg1 hg2 os.length
  have hos : os.length ≤ 1048576 := by have := ho.2.1.1; have := ho.2.2.2.1; omega
  obtain ⟨S, hS⟩ : ∃ S, csTo h c xs os a os.length = S := ⟨_, rfl⟩
  rw [hS] at HE hla hlen
  rw [hS]
  clear hS hb hg1 hg2
  rcases S with ⟨qb, qt, qc, ql⟩
  dsimp only at hla HE hlen
  dsimp only
  have HLA := Lib.hid hla
  clear hla
  go_enter Try.func61, Try.ntmps61
  go_wp2_with fail
  refine HE.out.mono ?_
  rintro e w1 ⟨A1, c1, rfl, hw1, hb1⟩
  rcases HLA.out with ⟨h1, h2⟩ | ⟨h1, h2⟩
  · have HT := Lib.hid h2
    subst h1
    clear h2 hw1
    go_wp2
    go_ret
    exact ⟨ret_int HT.out.symm, by repeat (first | (with_reducible exact Below.refl _ _) | (with_reducible assumption) | (with_reducible refine bl_alloc ?_ _) | (with_reducible refine bl_drew ?_) | (with_reducible refine bl_drewN ?_ _) | ((with_reducible refine bl_set ?_ ?hb _); (case hb => first | (simp; done) | omega | (simp; omega))) | (with_reducible refine bl_trans ?_ (by assumption)))⟩
  · have hl0 : 0 < ql.length := List.length_pos_iff.2 h1
    have hne : ((ql.length : Int) == 0) = false := by simp; omega
    obtain ⟨b, off, x, rfl, _, hx, hc⟩ := hw1.rd.atI (show ql.length - 1 < ql.length by omega)
    obtain rfl : x = qt := by rw [h2] at hx; exact (Option.some.inj hx).symm
    have e1 : IntKind.i64.wrap ((ql.length : Int) - 1) = ((ql.length - 1 : Nat) : Int) := by rw [IntWalk.i64_in _ (by omega)]; omega
    have k0 : (0 : Int) ≤ ((ql.length - 1 : Nat) : Int) := by omega
    have k1 : ((ql.length - 1 : Nat) : Int) < (ql.length : Int) := by omega
    clear h1 h2 hx hw1
    go_wp2
    go_ret
    exact ⟨rfl, by repeat (first | (with_reducible exact Below.refl _ _) | (with_reducible assumption) | (with_reducible refine bl_alloc ?_ _) | (with_reducible refine bl_drew ?_) | (with_reducible refine bl_drewN ?_ _) | ((with_reducible refine bl_set ?_ ?hb _); (case hb => first | (simp; done) | omega | (simp; omega))) | (with_reducible refine bl_trans ?_ (by assumption)))⟩
/-! ### the laws' functions -/
def endsL (a h c : Int) (xs : List Cst) (os : List Int) : List Int := if ordB a h c xs os then (csTo h c xs os a os.length).l else []
theorem endsL_no {a h c : Int} {xs : List Cst} {os : List Int} (hb : ordB a h c xs os = false) : endsL a h c xs os = [] := by simp [endsL, hb]
theorem endsL_yes {a h c : Int} {xs : List Cst} {os : List Int} (hb : ordB a h c xs os = true) : endsL a h c xs os = (csTo h c xs os a os.length).l := by simp [endsL, hb]
set_option maxHeartbeats 1000000 in
theorem specChg_any (a h c : Int) (A A' : Option Addr) (n cp n' cp' : Nat) (xs : List Cst) (os : List Int) (w : World) (ho : Ord w A A' n n' cp' xs os) :
    Calls Try.prog 25 #[.agg #[.int .i64 a, .int .i64 h, .int .i64 c], .slice A n cp, .slice A' n' cp'] w (PairB (oV (ordB a h c xs os) (csTo h c xs os a os.length).ch) (ordB a h c xs os) w) := by
  have HO := Lib.hid (fun (W : World) (hb : Below w.heap.size w W) => ho.below hb)
  have HA := Lib.hid (fun (W : World) (hb : Below w.heap.size w W) => askS_any a h c A A' n cp n' cp' xs os W (ho.below hb))
  rcases hB : ordB a h c xs os with _ | _
  · rw [hB] at HA
    go_enter Try.func25, Try.ntmps25
    go_wp2_with fail
    refine (HA.out _ ?_).mono ?_
    · exact by repeat (first | (with_reducible exact Below.refl _ _) | (with_reducible assumption) | (with_reducible refine bl_alloc ?_ _) | (with_reducible refine bl_drew ?_) | (with_reducible refine bl_drewN ?_ _) | ((with_reducible refine bl_set ?_ ?hb _); (case hb => first | (simp; done) | omega | (simp; omega))) | (with_reducible refine bl_trans ?_ (by assumption)))
    rintro e w1 ⟨rfl, hb⟩
    go_wp2
    go_ret2
    exact pair_b rfl rfl (by repeat (first | (with_reducible exact Below.refl _ _) | (with_reducible assumption) | (with_reducible refine bl_alloc ?_ _) | (with_reducible refine bl_drew ?_) | (with_reducible refine bl_drewN ?_ _) | ((with_reducible refine bl_set ?_ ?hb _); (case hb => first | (simp; done) | omega | (simp; omega))) | (with_reducible refine bl_trans ?_ (by assumption))))
  · have HE := Lib.hid (fun (W : World) (hb : Below w.heap.size w W) => endS_any a h c A A' n cp n' cp' xs os W (ho.below hb) hB)
    rw [hB] at HA
    clear hB
    go_enter Try.func25, Try.ntmps25
    go_wp2_with fail
    refine (HA.out _ ?_).mono ?_
    · exact by repeat (first | (with_reducible exact Below.refl _ _) | (with_reducible assumption) | (with_reducible refine bl_alloc ?_ _) | (with_reducible refine bl_drew ?_) | (with_reducible refine bl_drewN ?_ _) | ((with_reducible refine bl_set ?_ ?hb _); (case hb => first | (simp; done) | omega | (simp; omega))) | (with_reducible refine bl_trans ?_ (by assumption)))
    rintro e w1 ⟨rfl, hb⟩
    obtain ⟨hc0, hf0, hz0⟩ := bl_at hb (k := w.heap.size) (by first | assumption | (simp; done) | (simp; omega))
    go_wp2_with fail
    refine (HE.out _ ?_).mono ?_
    · exact by repeat (first | (with_reducible exact Below.refl _ _) | (with_reducible assumption) | (with_reducible refine bl_alloc ?_ _) | (with_reducible refine bl_drew ?_) | (with_reducible refine bl_drewN ?_ _) | ((with_reducible refine bl_set ?_ ?hb _); (case hb => first | (simp; done) | omega | (simp; omega))) | (with_reducible refine bl_trans ?_ (by assumption)))
    rintro e w2 ⟨A1, c1, rfl, hw1, hb2⟩
    clear hw1
    go_wp2
    go_ret2
    exact pair_b rfl rfl (by repeat (first | (with_reducible exact Below.refl _ _) | (with_reducible assumption) | (with_reducible refine bl_alloc ?_ _) | (with_reducible refine bl_drew ?_) | (with_reducible refine bl_drewN ?_ _) | ((with_reducible refine bl_set ?_ ?hb _); (case hb => first | (simp; done) | omega | (simp; omega))) | (with_reducible refine bl_trans ?_ (by assumption))))
set_option maxHeartbeats 1000000 in
theorem specOT_any (a h c : Int) (A A' : Option Addr) (n cp n' cp' : Nat) (xs : List Cst) (os : List Int) (w : World) (ho : Ord w A A' n n' cp' xs os) :
    Calls Try.prog 31 #[.agg #[.int .i64 a, .int .i64 h, .int .i64 c], .slice A n cp, .slice A' n' cp'] w (PairB (oV (ordB a h c xs os) (csTo h c xs os a os.length).t) (ordB a h c xs os) w) := by
  have HA := Lib.hid (fun (W : World) (hb : Below w.heap.size w W) => askS_any a h c A A' n cp n' cp' xs os W (ho.below hb))
  rcases hB : ordB a h c xs os with _ | _
  · rw [hB] at HA
    go_enter Try.func31, Try.ntmps31
    go_wp2_with fail
    refine (HA.out _ ?_).mono ?_
    · exact by repeat (first | (with_reducible exact Below.refl _ _) | (with_reducible assumption) | (with_reducible refine bl_alloc ?_ _) | (with_reducible refine bl_drew ?_) | (with_reducible refine bl_drewN ?_ _) | ((with_reducible refine bl_set ?_ ?hb _); (case hb => first | (simp; done) | omega | (simp; omega))) | (with_reducible refine bl_trans ?_ (by assumption)))
    rintro e w1 ⟨rfl, hb⟩
    go_wp2
    go_ret2
    exact pair_b rfl rfl (by repeat (first | (with_reducible exact Below.refl _ _) | (with_reducible assumption) | (with_reducible refine bl_alloc ?_ _) | (with_reducible refine bl_drew ?_) | (with_reducible refine bl_drewN ?_ _) | ((with_reducible refine bl_set ?_ ?hb _); (case hb => first | (simp; done) | omega | (simp; omega))) | (with_reducible refine bl_trans ?_ (by assumption))))
  · have HE := Lib.hid (fun (W : World) (hb : Below w.heap.size w W) => csLast_any a h c A A' n cp n' cp' xs os W (ho.below hb) hB)
    rw [hB] at HA
    clear hB
    go_enter Try.func31, Try.ntmps31
    go_wp2_with fail
    refine (HA.out _ ?_).mono ?_
    · exact by repeat (first | (with_reducible exact Below.refl _ _) | (with_reducible assumption) | (with_reducible refine bl_alloc ?_ _) | (with_reducible refine bl_drew ?_) | (with_reducible refine bl_drewN ?_ _) | ((with_reducible refine bl_set ?_ ?hb _); (case hb => first | (simp; done) | omega | (simp; omega))) | (with_reducible refine bl_trans ?_ (by assumption)))
    rintro e w1 ⟨rfl, hb⟩
    obtain ⟨hc0, hf0, hz0⟩ := bl_at hb (k := w.heap.size) (by first | assumption | (simp; done) | (simp; omega))
    go_wp2_with fail
    refine (HE.out _ ?_).mono ?_
    · exact by repeat (first | (with_reducible exact Below.refl _ _) | (with_reducible assumption) | (with_reducible refine bl_alloc ?_ _) | (with_reducible refine bl_drew ?_) | (with_reducible refine bl_drewN ?_ _) | ((with_reducible refine bl_set ?_ ?hb _); (case hb => first | (simp; done) | omega | (simp; omega))) | (with_reducible refine bl_trans ?_ (by assumption)))
    rintro e w2 ⟨rfl, hb2⟩
    go_wp2
    go_ret2
    exact pair_b rfl rfl (by repeat (first | (with_reducible exact Below.refl _ _) | (with_reducible assumption) | (with_reducible refine bl_alloc ?_ _) | (with_reducible refine bl_drew ?_) | (with_reducible refine bl_drewN ?_ _) | ((with_reducible refine bl_set ?_ ?hb _); (case hb => first | (simp; done) | omega | (simp; omega))) | (with_reducible refine bl_trans ?_ (by assumption))))
set_option maxHeartbeats 1000000 in
theorem specEO_any (a h c : Int) (A A' : Option Addr) (n cp n' cp' : Nat) (xs : List Cst) (os : List Int) (w : World) (ho : Ord w A A' n n' cp' xs os) :
    Calls Try.prog 35 #[.agg #[.int .i64 a, .int .i64 h, .int .i64 c], .slice A n cp, .slice A' n' cp'] w (RetS (endsL a h c xs os) (ordB a h c xs os) w) := by
  have HA := Lib.hid (fun (W : World) (hb : Below w.heap.size w W) => askS_any a h c A A' n cp n' cp' xs os W (ho.below hb))
  rcases hB : ordB a h c xs os with _ | _
  · rw [endsL_no hB]
    rw [hB] at HA
    go_enter Try.func35, Try.ntmps35
    go_wp2_with fail
    refine (HA.out _ ?_).mono ?_
    · exact by repeat (first | (with_reducible exact Below.refl _ _) | (with_reducible assumption) | (with_reducible refine bl_alloc ?_ _) | (with_reducible refine bl_drew ?_) | (with_reducible refine bl_drewN ?_ _) | ((with_reducible refine bl_set ?_ ?hb _); (case hb => first | (simp; done) | omega | (simp; omega))) | (with_reducible refine bl_trans ?_ (by assumption)))
    rintro e w1 ⟨rfl, hb⟩
    go_wp2
    go_ret2
    exact rets_nil rfl (by repeat (first | (with_reducible exact Below.refl _ _) | (with_reducible assumption) | (with_reducible refine bl_alloc ?_ _) | (with_reducible refine bl_drew ?_) | (with_reducible refine bl_drewN ?_ _) | ((with_reducible refine bl_set ?_ ?hb _); (case hb => first | (simp; done) | omega | (simp; omega))) | (with_reducible refine bl_trans ?_ (by assumption)))) _ _
  · have HE := Lib.hid (fun (W : World) (hb : Below w.heap.size w W) => endS_any a h c A A' n cp n' cp' xs os W (ho.below hb) hB)
    rw [endsL_yes hB]
    rw [hB] at HA
    clear hB
    obtain ⟨S, hS⟩ : ∃ S, csTo h c xs os a os.length = S := ⟨_, rfl⟩
    rw [hS] at HE
    rw [hS]
    clear hS
    rcases S with ⟨qb, qt, qc, ql⟩
    dsimp only at HE
    dsimp only
    go_enter Try.func35, Try.ntmps35
    go_wp2_with fail
    refine (HA.out _ ?_).mono ?_
    · exact by repeat (first | (with_reducible exact Below.refl _ _) | (with_reducible assumption) | (with_reducible refine bl_alloc ?_ _) | (with_reducible refine bl_drew ?_) | (with_reducible refine bl_drewN ?_ _) | ((with_reducible refine bl_set ?_ ?hb _); (case hb => first | (simp; done) | omega | (simp; omega))) | (with_reducible refine bl_trans ?_ (by assumption)))
    rintro e w1 ⟨rfl, hb⟩
    obtain ⟨hc0, hf0, hz0⟩ := bl_at hb (k := w.heap.size) (by first | assumption | (simp; done) | (simp; omega))
    go_wp2_with fail
    refine (HE.out _ ?_).mono ?_
    · exact by repeat (first | (with_reducible exact Below.refl _ _) | (with_reducible assumption) | (with_reducible refine bl_alloc ?_ _) | (with_reducible refine bl_drew ?_) | (with_reducible refine bl_drewN ?_ _) | ((with_reducible refine bl_set ?_ ?hb _); (case hb => first | (simp; done) | omega | (simp; omega))) | (with_reducible refine bl_trans ?_ (by assumption)))
    rintro e w2 ⟨A1, c1, rfl, hw1, hb2⟩
    have HW := Lib.hid (wr_lower (W0 := w) hw1 (by repeat (first | (with_reducible exact Below.refl _ _) | (with_reducible assumption) | (with_reducible refine bl_alloc ?_ _) | (with_reducible refine bl_drew ?_) | (with_reducible refine bl_drewN ?_ _) | ((with_reducible refine bl_set ?_ ?hb _); (case hb => first | (simp; done) | omega | (simp; omega))) | (with_reducible refine bl_trans ?_ (by assumption)))))
    clear hw1
    go_wp2
    go_ret2
    exact ⟨_, _, rfl, HW.out, by repeat (first | (with_reducible exact Below.refl _ _) | (with_reducible assumption) | (with_reducible refine bl_alloc ?_ _) | (with_reducible refine bl_drew ?_) | (with_reducible refine bl_drewN ?_ _) | ((with_reducible refine bl_set ?_ ?hb _); (case hb => first | (simp; done) | omega | (simp; omega))) | (with_reducible refine bl_trans ?_ (by assumption)))⟩
set_option maxHeartbeats 1000000 in
theorem implChg_any (a h c : Int) (A A' : Option Addr) (n cp n' cp' : Nat) (xs : List Cst) (os : List Int) (w : World) (ho : Ord w A A' n n' cp' xs os) :
    Calls Try.prog 27 #[.agg #[.int .i64 a, .int .i64 h, .int .i64 c], .slice A n cp, .slice A' n' cp'] w (PairB (oV (ordB a h c xs os) (csTo h c xs os a os.length).ch) (ordB a h c xs os) w) := by
  have HO := Lib.hid (fun (W : World) (hb : Below w.heap.size w W) => ho.below hb)
  have HA := Lib.hid (fun (W : World) (hb : Below w.heap.size w W) => askI_any a h c A A' n cp n' cp' xs os W (ho.below hb))
  rcases hB : ordB a h c xs os with _ | _
  · rw [hB] at HA
    go_enter Try.func27, Try.ntmps27
    go_wp2_with fail
    refine (HA.out _ ?_).mono ?_
    · exact by repeat (first | (with_reducible exact Below.refl _ _) | (with_reducible assumption) | (with_reducible refine bl_alloc ?_ _) | (with_reducible refine bl_drew ?_) | (with_reducible refine bl_drewN ?_ _) | ((with_reducible refine bl_set ?_ ?hb _); (case hb => first | (simp; done) | omega | (simp; omega))) | (with_reducible refine bl_trans ?_ (by assumption)))
    rintro e w1 ⟨rfl, hb⟩
    go_wp2
    go_ret2
    exact pair_b rfl rfl (by repeat (first | (with_reducible exact Below.refl _ _) | (with_reducible assumption) | (with_reducible refine bl_alloc ?_ _) | (with_reducible refine bl_drew ?_) | (with_reducible refine bl_drewN ?_ _) | ((with_reducible refine bl_set ?_ ?hb _); (case hb => first | (simp; done) | omega | (simp; omega))) | (with_reducible refine bl_trans ?_ (by assumption))))
  · have HE := Lib.hid (fun (W : World) (hb : Below w.heap.size w W) => endI_any a h c A A' n cp n' cp' xs os W (ho.below hb) hB)
    rw [hB] at HA
    clear hB
    go_enter Try.func27, Try.ntmps27
    go_wp2_with fail
    refine (HA.out _ ?_).mono ?_
    · exact by repeat (first | (with_reducible exact Below.refl _ _) | (with_reducible assumption) | (with_reducible refine bl_alloc ?_ _) | (with_reducible refine bl_drew ?_) | (with_reducible refine bl_drewN ?_ _) | ((with_reducible refine bl_set ?_ ?hb _); (case hb => first | (simp; done) | omega | (simp; omega))) | (with_reducible refine bl_trans ?_ (by assumption)))
    rintro e w1 ⟨rfl, hb⟩
    obtain ⟨hc0, hf0, hz0⟩ := bl_at hb (k := w.heap.size) (by first | assumption | (simp; done) | (simp; omega))
    go_wp2_with fail
    refine (HE.out _ ?_).mono ?_
    · exact by repeat (first | (with_reducible exact Below.refl _ _) | (with_reducible assumption) | (with_reducible refine bl_alloc ?_ _) | (with_reducible refine bl_drew ?_) | (with_reducible refine bl_drewN ?_ _) | ((with_reducible refine bl_set ?_ ?hb _); (case hb => first | (simp; done) | omega | (simp; omega))) | (with_reducible refine bl_trans ?_ (by assumption)))
    rintro e w2 ⟨A1, c1, rfl, hw1, hb2⟩
    clear hw1
    go_wp2
    go_ret2
    exact pair_b rfl rfl (by repeat (first | (with_reducible exact Below.refl _ _) | (with_reducible assumption) | (with_reducible refine bl_alloc ?_ _) | (with_reducible refine bl_drew ?_) | (with_reducible refine bl_drewN ?_ _) | ((with_reducible refine bl_set ?_ ?hb _); (case hb => first | (simp; done) | omega | (simp; omega))) | (with_reducible refine bl_trans ?_ (by assumption))))
set_option maxHeartbeats 1000000 in
theorem implOT_any (a h c : Int) (A A' : Option Addr) (n cp n' cp' : Nat) (xs : List Cst) (os : List Int) (w : World) (ho : Ord w A A' n n' cp' xs os) :
    Calls Try.prog 32 #[.agg #[.int .i64 a, .int .i64 h, .int .i64 c], .slice A n cp, .slice A' n' cp'] w (PairB (oV (ordB a h c xs os) (csTo h c xs os a os.length).t) (ordB a h c xs os) w) := by
  have HA := Lib.hid (fun (W : World) (hb : Below w.heap.size w W) => askI_any a h c A A' n cp n' cp' xs os W (ho.below hb))
  rcases hB : ordB a h c xs os with _ | _
  · rw [hB] at HA
    go_enter Try.func32, Try.ntmps32
    go_wp2_with fail
    refine (HA.out _ ?_).mono ?_
    · exact by repeat (first | (with_reducible exact Below.refl _ _) | (with_reducible assumption) | (with_reducible refine bl_alloc ?_ _) | (with_reducible refine bl_drew ?_) | (with_reducible refine bl_drewN ?_ _) | ((with_reducible refine bl_set ?_ ?hb _); (case hb => first | (simp; done) | omega | (simp; omega))) | (with_reducible refine bl_trans ?_ (by assumption)))
    rintro e w1 ⟨rfl, hb⟩
    go_wp2
    go_ret2
    exact pair_b rfl rfl (by repeat (first | (with_reducible exact Below.refl _ _) | (with_reducible assumption) | (with_reducible refine bl_alloc ?_ _) | (with_reducible refine bl_drew ?_) | (with_reducible refine bl_drewN ?_ _) | ((with_reducible refine bl_set ?_ ?hb _); (case hb => first | (simp; done) | omega | (simp; omega))) | (with_reducible refine bl_trans ?_ (by assumption))))
  · have HE := Lib.hid (fun (W : World) (hb : Below w.heap.size w W) => implTime_any a h c A A' n cp n' cp' xs os W (ho.below hb) hB)
    rw [hB] at HA
    clear hB
    go_enter Try.func32, Try.ntmps32
    go_wp2_with fail
    refine (HA.out _ ?_).mono ?_
    · exact by repeat (first | (with_reducible exact Below.refl _ _) | (with_reducible assumption) | (with_reducible refine bl_alloc ?_ _) | (with_reducible refine bl_drew ?_) | (with_reducible refine bl_drewN ?_ _) | ((with_reducible refine bl_set ?_ ?hb _); (case hb => first | (simp; done) | omega | (simp; omega))) | (with_reducible refine bl_trans ?_ (by assumption)))
    rintro e w1 ⟨rfl, hb⟩
    obtain ⟨hc0, hf0, hz0⟩ := bl_at hb (k := w.heap.size) (by first | assumption | (simp; done) | (simp; omega))
    go_wp2_with fail
    refine (HE.out _ ?_).mono ?_
    · exact by repeat (first | (with_reducible exact Below.refl _ _) | (with_reducible assumption) | (with_reducible refine bl_alloc ?_ _) | (with_reducible refine bl_drew ?_) | (with_reducible refine bl_drewN ?_ _) | ((with_reducible refine bl_set ?_ ?hb _); (case hb => first | (simp; done) | omega | (simp; omega))) | (with_reducible refine bl_trans ?_ (by assumption)))
    rintro e w2 ⟨rfl, hb2⟩
    go_wp2
    go_ret2
    exact pair_b rfl rfl (by repeat (first | (with_reducible exact Below.refl _ _) | (with_reducible assumption) | (with_reducible refine bl_alloc ?_ _) | (with_reducible refine bl_drew ?_) | (with_reducible refine bl_drewN ?_ _) | ((with_reducible refine bl_set ?_ ?hb _); (case hb => first | (simp; done) | omega | (simp; omega))) | (with_reducible refine bl_trans ?_ (by assumption))))
set_option maxHeartbeats 1000000 in
theorem implEO_any (a h c : Int) (A A' : Option Addr) (n cp n' cp' : Nat) (xs : List Cst) (os : List Int) (w : World) (ho : Ord w A A' n n' cp' xs os) :
    Calls Try.prog 36 #[.agg #[.int .i64 a, .int .i64 h, .int .i64 c], .slice A n cp, .slice A' n' cp'] w (RetS (endsL a h c xs os) (ordB a h c xs os) w) := by
  have HA := Lib.hid (fun (W : World) (hb : Below w.heap.size w W) => askI_any a h c A A' n cp n' cp' xs os W (ho.below hb))
  rcases hB : ordB a h c xs os with _ | _
  · rw [endsL_no hB]
    rw [hB] at HA
    go_enter Try.func36, Try.ntmps36
    go_wp2_with fail
    refine (HA.out _ ?_).mono ?_
    · exact by repeat (first | (with_reducible exact Below.refl _ _) | (with_reducible assumption) | (with_reducible refine bl_alloc ?_ _) | (with_reducible refine bl_drew ?_) | (with_reducible refine bl_drewN ?_ _) | ((with_reducible refine bl_set ?_ ?hb _); (case hb => first | (simp; done) | omega | (simp; omega))) | (with_reducible refine bl_trans ?_ (by assumption)))
    rintro e w1 ⟨rfl, hb⟩
    go_wp2
    go_ret2
    exact rets_nil rfl (by repeat (first | (with_reducible exact Below.refl _ _) | (with_reducible assumption) | (with_reducible refine bl_alloc ?_ _) | (with_reducible refine bl_drew ?_) | (with_reducible refine bl_drewN ?_ _) | ((with_reducible refine bl_set ?_ ?hb _); (case hb => first | (simp; done) | omega | (simp; omega))) | (with_reducible refine bl_trans ?_ (by assumption)))) _ _
  · have HE := Lib.hid (fun (W : World) (hb : Below w.heap.size w W) => endI_any a h c A A' n cp n' cp' xs os W (ho.below hb) hB)
    rw [endsL_yes hB]
    rw [hB] at HA
    clear hB
    obtain ⟨S, hS⟩ : ∃ S, csTo h c xs os a os.length = S := ⟨_, rfl⟩
    rw [hS] at HE
    rw [hS]
    clear hS
    rcases S with ⟨qb, qt, qc, ql⟩
    dsimp only at HE
    dsimp only
    go_enter Try.func36, Try.ntmps36
    go_wp2_with fail
    refine (HA.out _ ?_).mono ?_
    · exact by repeat (first | (with_reducible exact Below.refl _ _) | (with_reducible assumption) | (with_reducible refine bl_alloc ?_ _) | (with_reducible refine bl_drew ?_) | (with_reducible refine bl_drewN ?_ _) | ((with_reducible refine bl_set ?_ ?hb _); (case hb => first | (simp; done) | omega | (simp; omega))) | (with_reducible refine bl_trans ?_ (by assumption)))
    rintro e w1 ⟨rfl, hb⟩
    obtain ⟨hc0, hf0, hz0⟩ := bl_at hb (k := w.heap.size) (by first | assumption | (simp; done) | (simp; omega))
    go_wp2_with fail
    refine (HE.out _ ?_).mono ?_
    · exact by repeat (first | (with_reducible exact Below.refl _ _) | (with_reducible assumption) | (with_reducible refine bl_alloc ?_ _) | (with_reducible refine bl_drew ?_) | (with_reducible refine bl_drewN ?_ _) | ((with_reducible refine bl_set ?_ ?hb _); (case hb => first | (simp; done) | omega | (simp; omega))) | (with_reducible refine bl_trans ?_ (by assumption)))
    rintro e w2 ⟨A1, c1, rfl, hw1, hb2⟩
    have HW := Lib.hid (wr_lower (W0 := w) hw1 (by repeat (first | (with_reducible exact Below.refl _ _) | (with_reducible assumption) | (with_reducible refine bl_alloc ?_ _) | (with_reducible refine bl_drew ?_) | (with_reducible refine bl_drewN ?_ _) | ((with_reducible refine bl_set ?_ ?hb _); (case hb => first | (simp; done) | omega | (simp; omega))) | (with_reducible refine bl_trans ?_ (by assumption)))))
    clear hw1
    go_wp2
    go_ret2
    exact ⟨_, _, rfl, HW.out, by repeat (first | (with_reducible exact Below.refl _ _) | (with_reducible assumption) | (with_reducible refine bl_alloc ?_ _) | (with_reducible refine bl_drew ?_) | (with_reducible refine bl_drewN ?_ _) | ((with_reducible refine bl_set ?_ ?hb _); (case hb => first | (simp; done) | omega | (simp; omega))) | (with_reducible refine bl_trans ?_ (by assumption)))⟩
end Go.Proofs.Ytabmhmbmdegoaaa
