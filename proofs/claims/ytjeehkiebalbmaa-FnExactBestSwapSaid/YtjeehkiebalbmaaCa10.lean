/-
  A case with two boxes exchanged: contracts.
-/
import Derived.Test.YtjeehkiebalbmaaCa6
import Derived.Test.YtjeehkiebalbmaaOwn
import Derived.RegionTactic
namespace Go.Proofs.Ytjeehkiebalbmaa
open Go.RowKit
set_option linter.unusedVariables false
attribute [local go_sem ↓] Go.wp_at_zero Go.wp_at_succ

def cells4 (x : Box) : List Value := [.string x.code, .int .i64 x.row, .int .i64 x.col, .int .i64 x.cnt]
def flatB (xs : List Box) : List Value := xs.flatMap cells4
theorem flatB_len (xs : List Box) : (flatB xs).length = xs.length * 4 := by
  induction xs with
  | nil => rfl
  | cons x xs ih =>
    simp only [flatB, List.flatMap_cons, List.length_append, List.length_cons] at ih ⊢
    rw [ih]
    simp [cells4]
    omega
theorem flatB_get : ∀ (xs : List Box) (i j : Nat) (x : Box), xs[i]? = some x → j < 4 → (flatB xs)[i * 4 + j]? = some (cBox x j)
  | [], i, j, x, h, _ => by simp at h
  | y :: xs, 0, j, x, h, hj => by
    obtain rfl : y = x := by simpa using h
    match j, hj with
    | 0, _ => rfl
    | 1, _ => rfl
    | 2, _ => rfl
    | 3, _ => rfl
  | y :: xs, i + 1, j, x, h, hj => by
    have ih := flatB_get xs i j x (by simpa using h) hj
    show (cells4 y ++ flatB xs)[(i + 1) * 4 + j]? = _
    rw [List.getElem?_append_right (by simp [cells4]; omega), show (i + 1) * 4 + j - (cells4 y).length = i * 4 + j by simp [cells4]; omega]
    exact ih
theorem flatB_one (xs : List Box) : ∀ u ∈ flatB xs, u.oneCell' = true := by
  intro u hu
  obtain ⟨x, _, hx⟩ := List.mem_flatMap.1 hu
  simp [cells4] at hx
  rcases hx with rfl | rfl | rfl | rfl <;> rfl
def swapB (x y : Box) : Box := ⟨x.code, y.row, y.col, x.cnt⟩
def swapL (xs : List Box) (a b : Nat) : List Box := match xs[a]?, xs[b]? with | some x, some y => (xs.set a (swapB x y)).set b (swapB y x) | _, _ => xs
theorem swapL_eq {xs : List Box} {a b : Nat} {x y : Box} (ha : xs[a]? = some x) (hb : xs[b]? = some y) : swapL xs a b = (xs.set a (swapB x y)).set b (swapB y x) := by
  unfold swapL
  rw [ha, hb]
theorem swapL_len (xs : List Box) (a b : Nat) : (swapL xs a b).length = xs.length := by
  unfold swapL
  split <;> simp
theorem swapL_get {xs : List Box} {a b : Nat} {x y : Box} (ha : xs[a]? = some x) (hb : xs[b]? = some y) (hab : a ≠ b) (i : Nat) :
    (swapL xs a b)[i]? = if i = b then some (swapB y x) else if i = a then some (swapB x y) else xs[i]? := by
  have h1 := (List.getElem?_eq_some_iff.1 ha).1
  have h2 := (List.getElem?_eq_some_iff.1 hb).1
  rw [swapL_eq ha hb]
  by_cases hib : i = b
  · subst hib
    rw [List.getElem?_set_self (by simpa using h2), if_pos rfl]
  · rw [List.getElem?_set_ne (by omega), if_neg hib]
    by_cases hia : i = a
    · subst hia
      rw [List.getElem?_set_self h1, if_pos rfl]
    · rw [List.getElem?_set_ne (by omega), if_neg hia]
theorem infoB : (Try.prog.info? 26).map (fun i => (i.zero, i.size, i.bytes)) = some (some (.agg #[.string ⟨#[]⟩, .int .i64 0, .int .i64 0, .int .i64 0]), 4, 40) := by kernel_rfl
/-- the copy, and what the four stores make of it -/
theorem swap_rd {w : World} {g n : Nat} {xs : List Box} {a b : Nat} {x y : Box} (hl : xs.length = n) (ha : xs[a]? = some x) (hb : xs[b]? = some y) (hab : a ≠ b) (hg : g < w.heap.size)
    (hc : ∀ i z, xs[i]? = some z → ∀ j, j < 4 → w.cell? ⟨g, i * 4 + j, none⟩ = some (cBox z j)) {w' : World}
    (hw : w' = (((w.setCell ⟨g, a * 4 + 1, none⟩ (.int .i64 y.row)).setCell ⟨g, a * 4 + 2, none⟩ (.int .i64 y.col)).setCell ⟨g, b * 4 + 1, none⟩ (.int .i64 x.row)).setCell ⟨g, b * 4 + 2, none⟩ (.int .i64 x.col)) :
    Rd cBox 4 w' w'.heap.size (some ⟨g, 0, none⟩) n (swapL xs a b) := by
  have h1 := (List.getElem?_eq_some_iff.1 ha).1
  have h2 := (List.getElem?_eq_some_iff.1 hb).1
  refine ⟨by rw [swapL_len]; exact hl, fun _ => ⟨g, 0, rfl, by rw [hw]; simpa [World.setCell] using hg, fun i z hz j hj => ?_⟩⟩
  rw [Nat.zero_add]
  rw [swapL_get ha hb hab] at hz
  subst hw
  by_cases hib : i = b
  · subst hib
    rw [if_pos rfl] at hz
    obtain rfl : swapB y x = z := by simpa using hz
    match j, hj with
    | 0, _ =>
      rw [World.cell?_setCell_other _ _ _ _ (by first | (simp; done) | (simp; omega)), World.cell?_setCell_other _ _ _ _ (by first | (simp; done) | (simp; omega)), World.cell?_setCell_other _ _ _ _ (by first | (simp; done) | (simp; omega)), World.cell?_setCell_other _ _ _ _ (by first | (simp; done) | (simp; omega))]
      exact hc i y hb 0 (by omega)
    | 1, _ =>
      rw [World.cell?_setCell_other _ _ _ _ (by first | (simp; done) | (simp; omega))]
      refine World.cell?_setCell_same _ _ _ (u := .int .i64 y.row) ?_
      rw [World.cell?_setCell_other _ _ _ _ (by first | (simp; done) | (simp; omega)), World.cell?_setCell_other _ _ _ _ (by first | (simp; done) | (simp; omega))]
      exact hc i y hb 1 (by omega)
    | 2, _ =>
      refine World.cell?_setCell_same _ _ _ (u := .int .i64 y.col) ?_
      rw [World.cell?_setCell_other _ _ _ _ (by first | (simp; done) | (simp; omega)), World.cell?_setCell_other _ _ _ _ (by first | (simp; done) | (simp; omega)), World.cell?_setCell_other _ _ _ _ (by first | (simp; done) | (simp; omega))]
      exact hc i y hb 2 (by omega)
    | 3, _ =>
      rw [World.cell?_setCell_other _ _ _ _ (by first | (simp; done) | (simp; omega)), World.cell?_setCell_other _ _ _ _ (by first | (simp; done) | (simp; omega)), World.cell?_setCell_other _ _ _ _ (by first | (simp; done) | (simp; omega)), World.cell?_setCell_other _ _ _ _ (by first | (simp; done) | (simp; omega))]
      exact hc i y hb 3 (by omega)
  · rw [if_neg hib] at hz
    rw [World.cell?_setCell_other _ _ _ _ (by first | (simp; done) | (simp; omega)), World.cell?_setCell_other _ _ _ _ (by first | (simp; done) | (simp; omega))]
    by_cases hia : i = a
    · subst hia
      rw [if_pos rfl] at hz
      obtain rfl : swapB x y = z := by simpa using hz
      match j, hj with
      | 0, _ =>
        rw [World.cell?_setCell_other _ _ _ _ (by first | (simp; done) | (simp; omega)), World.cell?_setCell_other _ _ _ _ (by first | (simp; done) | (simp; omega))]
        exact hc i x ha 0 (by omega)
      | 1, _ =>
        rw [World.cell?_setCell_other _ _ _ _ (by first | (simp; done) | (simp; omega))]
        exact World.cell?_setCell_same _ _ _ (hc i x ha 1 (by omega))
      | 2, _ =>
        refine World.cell?_setCell_same _ _ _ (u := .int .i64 x.col) ?_
        rw [World.cell?_setCell_other _ _ _ _ (by first | (simp; done) | (simp; omega))]
        exact hc i x ha 2 (by omega)
      | 3, _ =>
        rw [World.cell?_setCell_other _ _ _ _ (by first | (simp; done) | (simp; omega)), World.cell?_setCell_other _ _ _ _ (by first | (simp; done) | (simp; omega))]
        exact hc i x ha 3 (by omega)
    · rw [if_neg hia] at hz
      rw [World.cell?_setCell_other _ _ _ _ (by first | (simp; done) | (simp; omega)), World.cell?_setCell_other _ _ _ _ (by first | (simp; done) | (simp; omega))]
      exact hc i z hz j hj
/-- returns a new slice of boxes that reads ys -/
def RetBx (ys : List Box) (w : World) (e : Ending) (w' : World) : Prop := ∃ A c, e = .returned (.slice A ys.length c) ∧ Rd cBox 4 w' w'.heap.size A ys.length ys ∧ Below w.heap.size w w'
set_option maxHeartbeats 1000000 in
theorem caSwap_any (A : Option Addr) (n c B : Nat) (xs : List Box) (a b : Nat) (w : World) (hr : Rd cBox 4 w B A n xs) (hB : B ≤ w.heap.size) (hn : n ≤ 1048576) (hab : a < b) (hbn : b < n) :
    Calls Try.prog 49 #[.slice A n c, .int .i64 a, .int .i64 b] w (RetBx (swapL xs a b) w) := by
  have hl := hr.1
  obtain ⟨i0, hi0, hi1, hi2, hi3⟩ := info_parts infoB
  obtain ⟨bb, off, x, rfl, hbB, hx, x0, x1, x2, x3⟩ := hr.atBox (show a < n by omega)
  obtain ⟨b', off', y, he, _, hy, y0, y1, y2, y3⟩ := hr.atBox hbn
  obtain ⟨rfl, rfl⟩ : bb = b' ∧ off = off' := by simpa using he
  have hnews : ∀ j u, (flatB xs)[j]? = some u → (w.alloc (.cells #[] 26)).cell? ((⟨bb, off, none⟩ : Addr).add j) = some u := by
    intro j u hu
    have hj : j < xs.length * 4 := by rw [← flatB_len]; exact (List.getElem?_eq_some_iff.1 hu).1
    obtain ⟨z, hz⟩ : ∃ z, xs[j / 4]? = some z := ⟨xs[j / 4]'(by omega), List.getElem?_eq_getElem _⟩
    have h1 := flatB_get xs (j / 4) (j % 4) z hz (by omega)
    rw [show j / 4 * 4 + j % 4 = j by omega, hu] at h1
    obtain ⟨b2, off2, e2, _, hcc⟩ := hr.2 (by omega)
    obtain ⟨rfl, rfl⟩ : bb = b2 ∧ off = off2 := by simpa using e2
    have h2 := hcc (j / 4) z hz (j % 4) (by omega)
    rw [show off + j / 4 * 4 + j % 4 = off + j by omega] at h2
    rw [add_none, World.cell?_alloc_past _ _ _ (by omega), h2]
    exact h1.symm
  have hown0 : (w.alloc (.cells #[] 26)).ownsRow w.heap.size 26 4 (.slice (some ⟨w.heap.size, 0, none⟩) 0 0) 0 [] :=
    ⟨by simp, .inr ⟨w.heap.size, 0, #[], rfl, Nat.le_refl _, heap_alloc_new w _, by omega, by simp [maxLen], by simp, by simp⟩⟩
  have HX := Lib.hid hx
  have HY := Lib.hid hy
  have HNEW := Lib.hid hnews
  have HONE := Lib.hid (flatB_one xs)
  have HLEN := Lib.hid (flatB_len xs)
  have HOWN := Lib.hid hown0
  clear hx hy hnews he hown0
  go_enter Try.func49, Try.ntmps49
  go_wp2_with (at_builtin; refine wpList_append_own_at _ rfl _ _ 32 rfl w.heap.size 26 i0 (.agg #[.string ⟨#[]⟩, .int .i64 0, .int .i64 0, .int .i64 0]) 4 40 Try.underlying32 hi0 hi1 hi2 hi3 rfl (by decide) _ _ _ rfl HOWN.out ⟨bb, off, none⟩ n c (flatB xs) rfl (by rw [HLEN.out, hl]) HNEW.out HONE.out ?c3 ?c4 ?c5 ?_)
  case c3 => unfold maxLen; omega
  case c4 => omega
  case c5 => simp
  intro v' w1 hown1 hg1 _ hat1
  obtain ⟨g, cap, rfl, hbg, hltg⟩ := hown1.form (show 0 < n by omega)
  have hcg : ∀ i z, xs[i]? = some z → ∀ j, j < 4 → w1.cell? ⟨g, i * 4 + j, none⟩ = some (cBox z j) := by
    intro i z hz j hj
    have hi := (List.getElem?_eq_some_iff.1 hz).1
    rw [hown1.cellAt (i * 4 + j) (by omega)]
    exact flatB_get xs i j z hz hj
  have hfg : ∀ i, w1.frozen? ⟨g, i, none⟩ = false := fun i => hown1.frozenAt i
  have hb1 : Below w.heap.size w w1 := (bl_alloc (Below.refl _ _) _).grown hg1 (by simp) (fun k hk => by simp [Value.ownBlock] at hk; omega)
  have hne : bb ≠ g := by omega
  have hne' : g ≠ bb := by omega
  obtain ⟨hcs, _, _⟩ := bl_at hb1 (k := bb) (by omega)
  have s1 := (hcs (off + a * 4 + 1)).trans x1
  have s2 := (hcs (off + a * 4 + 2)).trans x2
  have s3 := (hcs (off + b * 4 + 1)).trans y1
  have s4 := (hcs (off + b * 4 + 2)).trans y2
  have d1 : w1.cell? ⟨g, a * 4 + 1, none⟩ = some (.int .i64 x.row) := hcg a x HX.out 1 (by omega)
  have d2 : w1.cell? ⟨g, a * 4 + 2, none⟩ = some (.int .i64 x.col) := hcg a x HX.out 2 (by omega)
  have d3 : w1.cell? ⟨g, b * 4 + 1, none⟩ = some (.int .i64 y.row) := hcg b y HY.out 1 (by omega)
  have d4 : w1.cell? ⟨g, b * 4 + 2, none⟩ = some (.int .i64 y.col) := hcg b y HY.out 2 (by omega)
  have f1 := hfg (a * 4 + 1)
  have f2 := hfg (a * 4 + 2)
  have f3 := hfg (b * 4 + 1)
  have f4 := hfg (b * 4 + 2)
  have HCG := Lib.hid hcg
  have HB1 := Lib.hid hb1
  have a0 : (0 : Int) ≤ (a : Int) := by omega
  have a1 : (a : Int) < (n : Int) := by omega
  have b0 : (0 : Int) ≤ (b : Int) := by omega
  have b1 : (b : Int) < (n : Int) := by omega
  have n1 : a ≠ b := by omega
  have n2 : b ≠ a := by omega
  clear hcs hown1 hg1 hat1 hcg hfg hb1 x0 x1 x2 x3 y0 y1 y2 y3
  go_wp2
  go_ret
  refine ⟨some ⟨g, 0, none⟩, cap, by rw [swapL_len, hl]; rfl, ?_, (((HB1.out.setCell hbg _).setCell hbg _).setCell hbg _).setCell hbg _⟩
  rw [swapL_len, hl]
  exact swap_rd hl HX.out HY.out n1 hltg HCG.out rfl
end Go.Proofs.Ytjeehkiebalbmaa
