/-
  What must be filed off: contracts of filings, maCan, maFilings.
-/
import Derived.Test.YtbklljbjggoiaaaMa1
import Derived.Test.YtbklljbjggoiaaaCom
import Derived.Test.YtbklljbjggoiaaaOwn
namespace Go.Proofs.Ytbklljbjggoiaaa
open Go.RowKit
set_option linter.unusedVariables false
attribute [local go_sem ↓] Go.wp_at_zero Go.wp_at_succ

def okTo (b : Bool) (xs ys : List Int) (k : Nat) : Bool := b && ((xs.zip ys).take k).all fun p => decide (p.2 ≤ p.1)
def difTo (xs ys : List Int) (k : Nat) : List Int := ((xs.zip ys).take k).map fun p => p.1 - p.2
theorem zip_at {xs ys : List Int} {k : Nat} {x y : Int} (hx : xs[k]? = some x) (hy : ys[k]? = some y) : (xs.zip ys)[k]? = some (x, y) := by
  rw [List.getElem?_zip_eq_some]
  exact ⟨hx, hy⟩
theorem okTo_zero (b : Bool) (xs ys : List Int) : okTo b xs ys 0 = b := by simp [okTo]
theorem okTo_snoc {b : Bool} {xs ys : List Int} {k : Nat} {x y : Int} (hx : xs[k]? = some x) (hy : ys[k]? = some y) : okTo b xs ys (k + 1) = (okTo b xs ys k && decide (y ≤ x)) := by
  unfold okTo
  rw [take_snoc (zip_at hx hy)]
  simp [Bool.and_assoc]
theorem okTo_end {b : Bool} {xs ys : List Int} {k : Nat} (h : (xs.zip ys).length ≤ k) : okTo b xs ys k = (b && (xs.zip ys).all fun p => decide (p.2 ≤ p.1)) := by
  unfold okTo
  rw [List.take_of_length_le h]
theorem difTo_snoc {xs ys : List Int} {k : Nat} {x y : Int} (hx : xs[k]? = some x) (hy : ys[k]? = some y) : (difTo xs ys (k + 1)).map (Value.int .i64) = (difTo xs ys k).map (Value.int .i64) ++ [.int .i64 (x - y)] := by
  unfold difTo
  rw [take_snoc (zip_at hx hy)]
  simp
theorem okTo_stop {xs ys : List Int} {k : Nat} {x y : Int} (hx : xs[k]? = some x) (hy : ys[k]? = some y) (h : ¬ y ≤ x) : ((xs.zip ys).all fun p => decide (p.2 ≤ p.1)) = false := by
  rw [List.all_eq_false]
  exact ⟨(x, y), List.mem_of_getElem? (zip_at hx hy), by simpa using h⟩
theorem in5 {a b c d f x : Int} {k : Nat} (h : strikeB a b c d f = true) (hx : [a, b, c, d, f][k]? = some x) : 1 ≤ x ∧ x ≤ 999 := by
  unfold strikeB allIn at h
  exact inB_iff.1 (List.all_eq_true.1 h x (List.mem_of_getElem? hx))
def canB (a b c d f a' b' c' d' f' : Int) : Bool := okTo (c == c') [a, b, c, d, f] [a', b', c', d', f'] 5
def difs (a b c d f a' b' c' d' f' : Int) : List Int := difTo [a, b, c, d, f] [a', b', c', d', f'] 5
theorem difs_len (a b c d f a' b' c' d' f' : Int) : (difs a b c d f a' b' c' d' f').length = 5 := by simp [difs, difTo]

set_option maxHeartbeats 1000000 in
theorem filings_any (a b c d f a' b' c' d' f' : Int) (w : World) (h : strikeB a b c d f = true) (h' : strikeB a' b' c' d' f' = true) :
    Calls Try.prog 51 #[.agg #[.int .i64 a, .int .i64 b, .int .i64 c, .int .i64 d, .int .i64 f], .agg #[.int .i64 a', .int .i64 b', .int .i64 c', .int .i64 d', .int .i64 f']] w (RetS (difs a b c d f a' b' c' d' f') (canB a b c d f a' b' c' d' f') w) := by
  have HS := Lib.hid h
  have HS' := Lib.hid h'
  clear h h'
  obtain ⟨i0, hi0, hi1, hi2, hi3⟩ := info_parts infoI
  go_enter Try.func51, Try.ntmps51
  go_wp2_with (go_at_call 46; refine (parts_any _ _ _ _ _ _).mono ?_; rintro e w' ⟨rfl, rfl⟩)
  obtain ⟨W, hW⟩ : ∃ W, W = (((((((w.alloc (.cells #[.int .i64 a, .int .i64 b, .int .i64 c, .int .i64 d, .int .i64 f] 25)).alloc (.cells #[.int .i64 a', .int .i64 b', .int .i64 c', .int .i64 d', .int .i64 f'] 25)).alloc (.cells #[] 3)).alloc (.cells #[.int .i64 a', .int .i64 b', .int .i64 c', .int .i64 d', .int .i64 f'] 25)).alloc (.cells #[.int .i64 a', .int .i64 b', .int .i64 c', .int .i64 d', .int .i64 f'] 3)).alloc (.cells #[.int .i64 a, .int .i64 b, .int .i64 c, .int .i64 d, .int .i64 f] 25)).alloc (.cells #[.int .i64 a, .int .i64 b, .int .i64 c, .int .i64 d, .int .i64 f] 3)) := ⟨_, rfl⟩
  have hx : ∀ k x, [a, b, c, d, f][k]? = some x → W.cell? ⟨w.heap.size + 1 + 1 + 1 + 1 + 1 + 1, k, none⟩ = some (.int .i64 x) := by
    intro k x hk
    rw [hW, World.cell?_alloc_at _ _ _ _ (by simp)]
    match k, hk with
    | 0, hk => simp at hk; subst hk; rfl
    | 1, hk => simp at hk; subst hk; rfl
    | 2, hk => simp at hk; subst hk; rfl
    | 3, hk => simp at hk; subst hk; rfl
    | 4, hk => simp at hk; subst hk; rfl
  have hy : ∀ k x, [a', b', c', d', f'][k]? = some x → W.cell? ⟨w.heap.size + 1 + 1 + 1 + 1, k, none⟩ = some (.int .i64 x) := by
    intro k x hk
    rw [hW, World.cell?_alloc_past _ _ _ (by simp), World.cell?_alloc_past _ _ _ (by simp), World.cell?_alloc_at _ _ _ _ (by simp)]
    match k, hk with
    | 0, hk => simp at hk; subst hk; rfl
    | 1, hk => simp at hk; subst hk; rfl
    | 2, hk => simp at hk; subst hk; rfl
    | 3, hk => simp at hk; subst hk; rfl
    | 4, hk => simp at hk; subst hk; rfl
  have hg0 : W.heap[w.heap.size + 1 + 1]? = some (.cells #[] 3 (0, 0)) := by
    rw [hW, Below.heap_alloc _ _ _ (by simp), Below.heap_alloc _ _ _ (by simp), Below.heap_alloc _ _ _ (by simp), Below.heap_alloc _ _ _ (by simp)]
    have := heap_alloc_new ((w.alloc (.cells #[.int .i64 a, .int .i64 b, .int .i64 c, .int .i64 d, .int .i64 f] 25)).alloc (.cells #[.int .i64 a', .int .i64 b', .int .i64 c', .int .i64 d', .int .i64 f'] 25)) (.cells #[] 3)
    simpa using this
  have hsz : w.heap.size + 1 + 1 + 1 + 1 + 1 + 1 < W.heap.size := by rw [hW]; simp
  have hbW : Below w.heap.size w W := by rw [hW]; exact by repeat (first | (with_reducible exact Below.refl _ _) | (with_reducible assumption) | (with_reducible refine bl_alloc ?_ _) | (with_reducible refine bl_drew ?_) | (with_reducible refine bl_drewN ?_ _) | ((with_reducible refine bl_set ?_ ?hb _); (case hb => first | (simp; done) | omega | (simp; omega))) | (with_reducible refine bl_trans ?_ (by assumption)))
  rw [← hW]
  clear hW
  go_loopw [6, 8, 9, 10, 22] (fun s ok _ _ i wr => ∃ k : Nat, k ≤ 5 ∧ i = .int .i64 k ∧ ok = .bool (okTo (c == c') [a, b, c, d, f] [a', b', c', d', f'] k) ∧ OwnG 3 1 w.heap.size W (w.heap.size + 1 + 1) wr s k ((difTo [a, b, c, d, f] [a', b', c', d', f'] k).map (Value.int .i64))) (fun _ _ _ _ i _ => 5 - (intOf i).toNat)
  case atStart => exact ⟨0, by omega, rfl, by rw [okTo_zero], OwnG.start hg0 (by omega)⟩
  case round =>
    obtain ⟨k, hk, rfl, rfl, hown⟩ := hrel
    by_cases hlt : k < 5
    · obtain ⟨x, hxk⟩ : ∃ x, [a, b, c, d, f][k]? = some x := ⟨[a, b, c, d, f][k]'(by simpa using hlt), List.getElem?_eq_getElem _⟩
      obtain ⟨y, hyk⟩ : ∃ y, [a', b', c', d', f'][k]? = some y := ⟨[a', b', c', d', f'][k]'(by simpa using hlt), List.getElem?_eq_getElem _⟩
      obtain ⟨x0, x1⟩ := in5 HS.out hxk
      obtain ⟨y0, y1⟩ := in5 HS'.out hyk
      have hcx := (hown.cell (b := w.heap.size + 1 + 1 + 1 + 1 + 1 + 1) (by omega) (by omega) k).trans (hx k x hxk)
      have hcy := (hown.cell (b := w.heap.size + 1 + 1 + 1 + 1) (by omega) (by omega) k).trans (hy k y hyk)
      have HX := Lib.hid hxk
      have HY := Lib.hid hyk
      have HO := Lib.hid hown
      clear hxk hyk hown
      go_wp2_with (at_builtin; refine wpList_append_own_at _ rfl _ _ 42 rfl w.heap.size 3 i0 (.int .i64 0) 1 8 Try.underlying42 hi0 hi1 hi2 hi3 rfl (by decide) _ _ _ rfl ((HO.out.alloc _).own) ⟨wr.heap.size, 0, none⟩ 1 1 [.int .i64 (x - y)] rfl rfl ?c1 ?c2 ?c3 ?c4 ?c5 ?_)
      case c1 => exact cell_one_new _ _ _
      case c2 => intro u hu; simp at hu; subst hu; rfl
      case c3 => unfold maxLen; omega
      case c4 => omega
      case c5 => have := HO.out.gr.size; simp; omega
      intro v' w5 hown5 hg5 _ hat5
      have hcx5 : w5.cell? ⟨w.heap.size + 1 + 1 + 1 + 1, k, none⟩ = some (.int .i64 y) := (((HO.out.push hown5 hg5 hat5).cell (b := w.heap.size + 1 + 1 + 1 + 1) (by omega) (by omega) k).trans (hy k y HY.out))
      have HN := Lib.hid (HO.out.push hown5 hg5 hat5)
      clear hown5 hg5 hat5
      rcases hok : okTo (c == c') [a, b, c, d, f] [a', b', c', d', f'] k with _ | _
      · have E := Lib.hid (show okTo (c == c') [a, b, c, d, f] [a', b', c', d', f'] (k + 1) = false by rw [okTo_snoc HX.out HY.out, hok]; rfl)
        go_wp2
        go_roundw
        case rel => exact ⟨k + 1, by omega, by go_num, by rw [E.out], by rw [difTo_snoc HX.out HY.out]; exact HN.out⟩
        case measure => simp [intOf]; omega
      · by_cases hyx : y ≤ x
        · have E := Lib.hid (show okTo (c == c') [a, b, c, d, f] [a', b', c', d', f'] (k + 1) = true by rw [okTo_snoc HX.out HY.out, hok]; simpa using hyx)
          go_wp2
          go_roundw
          case rel => exact ⟨k + 1, by omega, by go_num, by rw [E.out], by rw [difTo_snoc HX.out HY.out]; exact HN.out⟩
          case measure => simp [intOf]; omega
        · have E := Lib.hid (show okTo (c == c') [a, b, c, d, f] [a', b', c', d', f'] (k + 1) = false by rw [okTo_snoc HX.out HY.out, hok]; simpa using hyx)
          go_wp2
          go_roundw
          case rel => exact ⟨k + 1, by omega, by go_num, by rw [E.out], by rw [difTo_snoc HX.out HY.out]; exact HN.out⟩
          case measure => simp [intOf]; omega
    · obtain rfl : k = 5 := by omega
      have hbl := hown.to_below (B := w.heap.size) (by omega) (by omega)
      obtain ⟨A, cap, rfl, hwr⟩ := own_wr hown.own
      clear hown
      go_wp2
      go_ret2
      have hl := difs_len a b c d f a' b' c' d' f'
      refine ⟨A, cap, by rw [hl]; rfl, by rw [hl]; exact hwr, hbW.trans hbl⟩
end Go.Proofs.Ytbklljbjggoiaaa
