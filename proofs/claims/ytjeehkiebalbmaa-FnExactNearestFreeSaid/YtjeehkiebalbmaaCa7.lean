/-
  The nearest free place: plain laws and contracts.
-/
import Derived.Test.YtjeehkiebalbmaaCa5
namespace Go.Proofs.Ytjeehkiebalbmaa
open Go.RowKit
set_option linter.unusedVariables false
attribute [local go_sem ↓] Go.wp_at_zero Go.wp_at_succ

/-! ### a free place exists -/
theorem pigeon {α : Type} (key : α → Nat) : ∀ (xs : List α) (L : List Nat), L.Nodup → xs.length < L.length → ∃ p ∈ L, ∀ x ∈ xs, key x ≠ p
  | [], L, _, h => by
    cases L with
    | nil => simp at h
    | cons p r => exact ⟨p, by simp, by simp⟩
  | x :: xs, L, hd, h => by
    have hl : xs.length < (L.erase (key x)).length := by
      rw [List.length_erase]
      split <;> simp at h <;> omega
    obtain ⟨p, hp, hx⟩ := pigeon key xs (L.erase (key x)) (hd.erase _) hl
    have hp2 := (List.Nodup.mem_erase_iff hd).1 hp
    refine ⟨p, hp2.2, fun y hy => ?_⟩
    rcases List.mem_cons.1 hy with rfl | hy
    · exact fun e => hp2.1 e.symm
    · exact hx y hy
theorem free_place {xs : List Box} (hx : ∀ x ∈ xs, boxB x = true) (hl : xs.length ≤ 32) : ∃ m : Nat, m < 100 ∧ takenB xs ((m / 10 : Nat) : Int) ((m % 10 : Nat) : Int) = false := by
  obtain ⟨p, hp, hxp⟩ := pigeon (fun x : Box => (x.row * 10 + x.col).toNat) xs (List.range 100) List.nodup_range (by simp; omega)
  have hp' := List.mem_range.1 hp
  refine ⟨p, hp', ?_⟩
  unfold takenB
  rw [List.any_eq_false]
  intro x hx' ha
  obtain ⟨b1, b2, _⟩ := box_bd (hx x hx')
  have h1 := hxp x hx'
  simp [atB] at ha
  omega
/-! ### the search -/
def dstI (row col : Int) (i k : Nat) : Int := absI ((i : Int) - row) + absI ((k : Int) - col)
def nfStep (xs : List Box) (row col : Int) (i k : Nat) (s : Option (Int × Int × Int)) : Option (Int × Int × Int) :=
  if takenB xs (i : Int) (k : Int) = true then s else match s with
  | none => some ((i : Int), (k : Int), dstI row col i k)
  | some (r, c, d) => if dstI row col i k < d then some ((i : Int), (k : Int), dstI row col i k) else some (r, c, d)
def nfTo (xs : List Box) (row col : Int) : Nat → Option (Int × Int × Int)
  | 0 => none
  | m + 1 => nfStep xs row col (m / 10) (m % 10) (nfTo xs row col m)
theorem nfTo_snoc (xs : List Box) (row col : Int) {i k : Nat} (hk : k < 10) : nfTo xs row col (10 * i + (k + 1)) = nfStep xs row col i k (nfTo xs row col (10 * i + k)) := by
  show nfTo xs row col (10 * i + k + 1) = _
  rw [nfTo, show (10 * i + k) / 10 = i by omega, show (10 * i + k) % 10 = k by omega]
theorem nfStep_taken {xs : List Box} {row col : Int} {i k : Nat} {s : Option (Int × Int × Int)} (h : takenB xs (i : Int) (k : Int) = true) : nfStep xs row col i k s = s := by simp [nfStep, h]
theorem nfStep_first {xs : List Box} {row col : Int} {i k : Nat} (h : takenB xs (i : Int) (k : Int) = false) : nfStep xs row col i k none = some ((i : Int), (k : Int), dstI row col i k) := by simp [nfStep, h]
theorem nfStep_less {xs : List Box} {row col : Int} {i k : Nat} {r c d : Int} (h : takenB xs (i : Int) (k : Int) = false) (hd : dstI row col i k < d) : nfStep xs row col i k (some (r, c, d)) = some ((i : Int), (k : Int), dstI row col i k) := by simp [nfStep, h, hd]
theorem nfStep_more {xs : List Box} {row col : Int} {i k : Nat} {r c d : Int} (h : takenB xs (i : Int) (k : Int) = false) (hd : ¬ dstI row col i k < d) : nfStep xs row col i k (some (r, c, d)) = some (r, c, d) := by simp [nfStep, h, hd]
theorem nfStep_some {xs : List Box} {row col : Int} {i k : Nat} {s : Option (Int × Int × Int)} (h : s ≠ none) : nfStep xs row col i k s ≠ none := by
  unfold nfStep
  split
  · exact h
  · split
    · simp
    · split <;> simp
theorem nfTo_some {xs : List Box} {row col : Int} {m : Nat} (h : takenB xs ((m / 10 : Nat) : Int) ((m % 10 : Nat) : Int) = false) : ∀ j, m < j → nfTo xs row col j ≠ none
  | 0, hj => by omega
  | j + 1, hj => by
    rw [nfTo]
    by_cases hm : m = j
    · subst hm
      unfold nfStep
      rw [h]
      simp only [Bool.false_eq_true, if_false]
      split
      · simp
      · split <;> simp
    · exact nfStep_some (nfTo_some h j (by omega))
theorem dstI_bd {row col : Int} (hr : 0 ≤ row ∧ row ≤ 9) (hc : 0 ≤ col ∧ col ≤ 9) {i k : Nat} (hi : i < 10) (hk : k < 10) : 0 ≤ dstI row col i k ∧ dstI row col i k ≤ 18 := by
  unfold dstI absI
  omega
def nfOk (s : Option (Int × Int × Int)) : Prop := ∀ r c d, s = some (r, c, d) → 0 ≤ r ∧ 0 ≤ d ∧ d ≤ 18
theorem nfStep_ok {xs : List Box} {row col : Int} (hr : 0 ≤ row ∧ row ≤ 9) (hc : 0 ≤ col ∧ col ≤ 9) {i k : Nat} (hi : i < 10) (hk : k < 10) {s : Option (Int × Int × Int)} (h : nfOk s) : nfOk (nfStep xs row col i k s) := by
  have hd := dstI_bd hr hc hi hk
  have key : nfOk (some ((i : Int), (k : Int), dstI row col i k)) := by
    intro r c d e
    simp only [Option.some.injEq, Prod.mk.injEq] at e
    obtain ⟨rfl, rfl, rfl⟩ := e
    exact ⟨by omega, hd.1, hd.2⟩
  unfold nfStep
  split
  · exact h
  · split
    · exact key
    · split
      · exact key
      · exact h
theorem nfTo_ok {xs : List Box} {row col : Int} (hr : 0 ≤ row ∧ row ≤ 9) (hc : 0 ≤ col ∧ col ≤ 9) : ∀ m, m ≤ 100 → nfOk (nfTo xs row col m)
  | 0, _ => by intro r c d e; simp [nfTo] at e
  | m + 1, hm => by
    rw [nfTo]
    exact nfStep_ok hr hc (by omega) (by omega) (nfTo_ok hr hc m (by omega))
/-- how the two sides keep the best place -/
def spR (s : Option (Int × Int × Int)) : Int := match s with | none => -1 | some (r, _, _) => r
def spC (s : Option (Int × Int × Int)) : Int := match s with | none => -1 | some (_, c, _) => c
def spD (s : Option (Int × Int × Int)) : Int := match s with | none => 0 | some (_, _, d) => d
def imR (s : Option (Int × Int × Int)) : Int := match s with | none => 0 | some (r, _, _) => r
def imC (s : Option (Int × Int × Int)) : Int := match s with | none => 0 | some (_, c, _) => c
def imD (s : Option (Int × Int × Int)) : Int := match s with | none => -1 | some (_, _, d) => d
def nfB (xs : List Box) (row col : Int) : Bool := caseB xs && (inB row 0 9 && inB col 0 9)
theorem nf_parts {xs : List Box} {row col : Int} (h : nfB xs row col = false) : caseB xs = false ∨ caseB xs = true ∧ inB row 0 9 = false ∨ caseB xs = true ∧ inB row 0 9 = true ∧ inB col 0 9 = false := by
  unfold nfB at h
  rcases h1 : caseB xs with _ | _ <;> rcases h2 : inB row 0 9 with _ | _ <;> rcases h3 : inB col 0 9 with _ | _ <;> simp_all
theorem nf_all {xs : List Box} {row col : Int} (h : nfB xs row col = true) : caseB xs = true ∧ (0 ≤ row ∧ row ≤ 9) ∧ (0 ≤ col ∧ col ≤ 9) ∧ inB row 0 9 = true ∧ inB col 0 9 = true := by
  unfold nfB at h
  simp only [Bool.and_eq_true] at h
  exact ⟨h.1, inB_iff.1 h.2.1, inB_iff.1 h.2.2, h.2.1, h.2.2⟩
theorem nf_same {xs : List Box} {row col : Int} (h : caseB xs = true) : spR (nfTo xs row col 100) = imR (nfTo xs row col 100) ∧ spC (nfTo xs row col 100) = imC (nfTo xs row col 100) := by
  obtain ⟨m, hm, hf⟩ := free_place (fun x hx => by obtain ⟨k, hk⟩ := List.mem_iff_getElem?.1 hx; exact (case_each h hk).1) (case_len h).2
  have := nfTo_some (row := row) (col := col) hf 100 hm
  rcases hs : nfTo xs row col 100 with _ | ⟨r, c, d⟩
  · exact absurd hs this
  · exact ⟨rfl, rfl⟩
/-- returns two numbers and a bool -/
def TripB (p q : Int) (b : Bool) (w : World) (e : Ending) (w' : World) : Prop := e = .returned (.tuple #[.int .i64 p, .int .i64 q, .bool b]) ∧ Below w.heap.size w w'
theorem trip_b {p q x y : Int} {b c : Bool} {w w' : World} (h1 : p = x) (h2 : q = y) (h : b = c) (hb : Below w.heap.size w w') : TripB x y c w (.returned (.tuple #[.int .i64 p, .int .i64 q, .bool b])) w' := by
  subst h1 h2 h; exact ⟨rfl, hb⟩
set_option maxHeartbeats 1000000 in
theorem specNF_no (A : Option Addr) (n c : Nat) (xs : List Box) (row col : Int) (w : World) (hr : Rd cBox 4 w w.heap.size A n xs) (hn : n ≤ 1048576) (hok : ∀ x ∈ xs, okBox x) (hcap : n ≤ c) (h : nfB xs row col = false) :
    Calls Try.prog 23 #[.slice A n c, .int .i64 row, .int .i64 col] w (TripB 0 0 false w) := by
  have HG := Lib.hid (caGood_any A n c _ xs w hr (Nat.le_refl _) hn hok hcap)
  clear hok
  rcases nf_parts h with h1 | ⟨h1, h2⟩ | ⟨h1, h2, h3⟩
  · rw [h1] at HG
    go_enter Try.func23, Try.ntmps23
    go_wp2_with (go_at_call 36; refine HG.out.mono ?_; rintro e w' ⟨rfl, hb⟩)
    go_ret3
    exact trip_b rfl rfl rfl (by repeat (first | (with_reducible exact Below.refl _ _) | (with_reducible assumption) | (with_reducible refine bl_alloc ?_ _) | (with_reducible refine bl_drew ?_) | (with_reducible refine bl_drewN ?_ _) | ((with_reducible refine bl_set ?_ ?hb _); (case hb => first | (simp; done) | omega | (simp; omega))) | (with_reducible refine bl_trans ?_ (by assumption))))
  · rw [h1] at HG
    have H2 := Lib.hid h2
    clear h h1 h2
    go_enter Try.func23, Try.ntmps23
    go_wp2_with (first | (go_at_call 36; refine HG.out.mono ?_; rintro e w' ⟨rfl, hb⟩) | (go_at_call 42; first | (refine (l1In_any _ _ _ _).mono ?_; rw [H2.out]; rintro e w' ⟨rfl, rfl⟩) | (refine (isPlace_any _ _).mono ?_; rw [H2.out]; rintro e w' ⟨rfl, rfl⟩)))
    go_ret3
    exact trip_b rfl rfl rfl (by repeat (first | (with_reducible exact Below.refl _ _) | (with_reducible assumption) | (with_reducible refine bl_alloc ?_ _) | (with_reducible refine bl_drew ?_) | (with_reducible refine bl_drewN ?_ _) | ((with_reducible refine bl_set ?_ ?hb _); (case hb => first | (simp; done) | omega | (simp; omega))) | (with_reducible refine bl_trans ?_ (by assumption))))
  · rw [h1] at HG
    have H2 := Lib.hid h2
    have H3 := Lib.hid h3
    clear h h1 h2 h3
    go_enter Try.func23, Try.ntmps23
    go_wp2_with (first | (go_at_call 36; refine HG.out.mono ?_; rintro e w' ⟨rfl, hb⟩) | (go_at_call 42; first | (refine (l1In_any _ _ _ _).mono ?_; (first | rw [H2.out] | rw [H3.out]); rintro e w' ⟨rfl, rfl⟩) | (refine (isPlace_any _ _).mono ?_; (first | rw [H2.out] | rw [H3.out]); rintro e w' ⟨rfl, rfl⟩)))
    go_ret3
    exact trip_b rfl rfl rfl (by repeat (first | (with_reducible exact Below.refl _ _) | (with_reducible assumption) | (with_reducible refine bl_alloc ?_ _) | (with_reducible refine bl_drew ?_) | (with_reducible refine bl_drewN ?_ _) | ((with_reducible refine bl_set ?_ ?hb _); (case hb => first | (simp; done) | omega | (simp; omega))) | (with_reducible refine bl_trans ?_ (by assumption))))
set_option maxHeartbeats 1000000 in
theorem implNF_no (A : Option Addr) (n c : Nat) (xs : List Box) (row col : Int) (w : World) (hr : Rd cBox 4 w w.heap.size A n xs) (hn : n ≤ 1048576) (hok : ∀ x ∈ xs, okBox x) (hcap : n ≤ c) (h : nfB xs row col = false) :
    Calls Try.prog 24 #[.slice A n c, .int .i64 row, .int .i64 col] w (TripB 0 0 false w) := by
  have HG := Lib.hid (implIsCase_any A n c _ xs w hr (Nat.le_refl _) hn hok hcap)
  clear hok
  rcases nf_parts h with h1 | ⟨h1, h2⟩ | ⟨h1, h2, h3⟩
  · rw [h1] at HG
    go_enter Try.func24, Try.ntmps24
    go_wp2_with (go_at_call 17; refine HG.out.mono ?_; rintro e w' ⟨rfl, hb⟩)
    go_ret3
    exact trip_b rfl rfl rfl (by repeat (first | (with_reducible exact Below.refl _ _) | (with_reducible assumption) | (with_reducible refine bl_alloc ?_ _) | (with_reducible refine bl_drew ?_) | (with_reducible refine bl_drewN ?_ _) | ((with_reducible refine bl_set ?_ ?hb _); (case hb => first | (simp; done) | omega | (simp; omega))) | (with_reducible refine bl_trans ?_ (by assumption))))
  · rw [h1] at HG
    have H2 := Lib.hid h2
    clear h h1 h2
    go_enter Try.func24, Try.ntmps24
    go_wp2_with (first | (go_at_call 17; refine HG.out.mono ?_; rintro e w' ⟨rfl, hb⟩) | (go_at_call 34; first | (refine (l1In_any _ _ _ _).mono ?_; rw [H2.out]; rintro e w' ⟨rfl, rfl⟩) | (refine (isPlace_any _ _).mono ?_; rw [H2.out]; rintro e w' ⟨rfl, rfl⟩)))
    go_ret3
    exact trip_b rfl rfl rfl (by repeat (first | (with_reducible exact Below.refl _ _) | (with_reducible assumption) | (with_reducible refine bl_alloc ?_ _) | (with_reducible refine bl_drew ?_) | (with_reducible refine bl_drewN ?_ _) | ((with_reducible refine bl_set ?_ ?hb _); (case hb => first | (simp; done) | omega | (simp; omega))) | (with_reducible refine bl_trans ?_ (by assumption))))
  · rw [h1] at HG
    have H2 := Lib.hid h2
    have H3 := Lib.hid h3
    clear h h1 h2 h3
    go_enter Try.func24, Try.ntmps24
    go_wp2_with (first | (go_at_call 17; refine HG.out.mono ?_; rintro e w' ⟨rfl, hb⟩) | (go_at_call 34; first | (refine (l1In_any _ _ _ _).mono ?_; (first | rw [H2.out] | rw [H3.out]); rintro e w' ⟨rfl, rfl⟩) | (refine (isPlace_any _ _).mono ?_; (first | rw [H2.out] | rw [H3.out]); rintro e w' ⟨rfl, rfl⟩)))
    go_ret3
    exact trip_b rfl rfl rfl (by repeat (first | (with_reducible exact Below.refl _ _) | (with_reducible assumption) | (with_reducible refine bl_alloc ?_ _) | (with_reducible refine bl_drew ?_) | (with_reducible refine bl_drewN ?_ _) | ((with_reducible refine bl_set ?_ ?hb _); (case hb => first | (simp; done) | omega | (simp; omega))) | (with_reducible refine bl_trans ?_ (by assumption))))
end Go.Proofs.Ytjeehkiebalbmaa
