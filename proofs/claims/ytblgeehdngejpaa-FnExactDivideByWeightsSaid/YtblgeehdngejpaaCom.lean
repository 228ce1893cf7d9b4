/-
  Ends that several laws share.
-/
import Derived.Test.YtblgeehdngejpaaSlc
namespace Go.Proofs.Ytblgeehdngejpaa
open Go.RowKit
set_option linter.unusedVariables false

def oV (b : Bool) (x : Int) : Int := if b then x else 0
theorem oV_no {b : Bool} {x : Int} (h : b = false) : oV b x = 0 := by rw [h]; rfl
theorem oV_yes {b : Bool} {x : Int} (h : b = true) : oV b x = x := by rw [h]; rfl
/-- returns a number and a bool -/
def PairB (x : Int) (b : Bool) (w : World) (e : Ending) (w' : World) : Prop := e = .returned (.tuple #[.int .i64 x, .bool b]) ∧ Below w.heap.size w w'
theorem pair_b {x y : Int} {b c : Bool} {w w' : World} (h : x = y) (h' : b = c) (hb : Below w.heap.size w w') : PairB y c w (.returned (.tuple #[.int .i64 x, .bool b])) w' := by subst h; subst h'; exact ⟨rfl, hb⟩
/-- returns a new slice of int that reads xs -/
def RetL (xs : List Int) (w : World) (e : Ending) (w' : World) : Prop := ∃ A c, e = .returned (.slice A xs.length c) ∧ Wr w' w.heap.size A xs.length xs ∧ Below w.heap.size w w'
theorem wr_lower {W0 X w8 : World} {A : Option Addr} {n : Nat} {xs : List Int} (h : Wr w8 X.heap.size A n xs) (hb : Below W0.heap.size W0 X) : Wr w8 W0.heap.size A n xs :=
  ⟨h.1, fun hn => by
    obtain ⟨g, e1, e2, e3⟩ := h.2 hn
    exact ⟨g, e1, Nat.le_trans hb.size e2, e3⟩⟩
theorem rets_nil {w w' : World} {xs : List Int} {b : Bool} (h : xs = []) (hb : Below w.heap.size w w') (A : Option Addr) (c : Nat) : RetS xs b w (.returned (.tuple #[.slice A 0 c, .bool b])) w' := by
  subst h
  exact ⟨A, c, rfl, ⟨rfl, fun hn => absurd hn (by simp)⟩, hb⟩
theorem ret_val {a b : Value} (h : a = b) : Ending.returned a = .returned b := by rw [h]
theorem infoI : (Try.prog.info? 3).map (fun i => (i.zero, i.size, i.bytes)) = some (some (.int .i64 0), 1, 8) := by kernel_rfl
/-! ### one row written -/
theorem gr_set {W w : World} {g : Nat} (h : W.grownBy w (some g)) (o : Nat) (u : Value) : W.grownBy (w.setCell ⟨g, o, none⟩ u) (some g) :=
  ⟨h.os, h.tape, h.output, by simpa [World.setCell] using h.size, fun k hk hne => (Below.heap_setCell _ _ _ _ (by simpa using hne)).trans (h.block k hk hne)⟩
theorem bl_und {B : Nat} {w w' : World} {m : Nat} (h : Below B (w.drewN m) w') : Below B w w' := ⟨h.os, h.tape, h.output, h.size, h.block⟩
theorem gr_refl (W : World) (r : Option Nat) : W.grownBy W r := ⟨rfl, rfl, rfl, Nat.le_refl _, fun _ _ _ => rfl⟩
theorem gr_bl {W w w' : World} {r : Option Nat} (h : W.grownBy w r) (hb : Below w.heap.size w w') : W.grownBy w' r :=
  ⟨hb.os.trans h.os, hb.tape.trans h.tape, hb.output.trans h.output, Nat.le_trans h.size hb.size, fun k hk hne => (hb.block k (Nat.lt_of_lt_of_le hk h.size)).trans (h.block k hk hne)⟩
theorem gr_below {W w : World} {g B : Nat} (h : W.grownBy w (some g)) (h1 : B ≤ g) (h2 : B ≤ W.heap.size) : Below B W w :=
  ⟨h.os, h.tape, h.output, h.size, fun k hk => h.block k (by omega) (by simp; omega)⟩
theorem gr_belowR {W w : World} {r : Option Nat} {B : Nat} (h : W.grownBy w r) (h1 : ∀ k, r = some k → B ≤ k) (h2 : B ≤ W.heap.size) : Below B W w :=
  ⟨h.os, h.tape, h.output, h.size, fun k hk => h.block k (by omega) (fun e => by have := h1 k e.symm; omega)⟩
theorem gr_at {W w : World} {g k : Nat} (h : W.grownBy w (some g)) (hk : k < W.heap.size) (hne : k ≠ g) : (∀ o, w.cell? ⟨k, o, none⟩ = W.cell? ⟨k, o, none⟩) ∧ (∀ o, w.frozen? ⟨k, o, none⟩ = W.frozen? ⟨k, o, none⟩) :=
  ⟨fun o => World.cell?_of_block (a := ⟨k, o, none⟩) (h.block k hk (by simpa using hne)), fun o => World.frozen?_of_block (a := ⟨k, o, none⟩) (h.block k hk (by simpa using hne))⟩
theorem own_set {w : World} {base : Nat} {e : TypeId} {sz : Nat} {v : Value} {n : Nat} {xs : List Value} (h : w.ownsRow base e sz v n xs) {g : Nat} (hne : v.ownBlock ≠ some g) (o : Nat) (u : Value) : (w.setCell ⟨g, o, none⟩ u).ownsRow base e sz v n xs :=
  h.kept (gr_set (gr_refl w (some g)) o u) (.inr hne)
theorem own_empty {w : World} {base : Nat} {e : TypeId} {g : Nat} (hg : w.heap[g]? = some (.cells #[] e (0, 0))) (hb : base ≤ g) : w.ownsRow base e 1 (.slice (some ⟨g, 0, none⟩) 0 0) 0 [] :=
  ⟨by simp, .inr ⟨g, 0, #[], rfl, hb, hg, by omega, by simp [maxLen], by simp, by simp⟩⟩
/-- the row that a mark writes: the block at which slice A begins, if it has elements -/
def RowOf (A : Option Addr) (n : Nat) (w w' : World) : Prop := ∃ row : Option Nat, w.grownBy w' row ∧ ∀ k, row = some k → 0 < n ∧ A = some ⟨k, 0, none⟩
theorem wr_row {w w' : World} {base : Nat} {A : Option Addr} {n : Nat} {xs : List Int} (h : Wr w base A n xs) {row : Option Nat} (hg : w.grownBy w' row) (hr : ∀ k, row = some k → k < base) : Wr w' base A n xs := by
  refine ⟨h.1, fun hn => ?_⟩
  obtain ⟨g, e, h1, hl, hc, hf⟩ := h.2 hn
  have hb : w'.heap[g]? = w.heap[g]? := hg.block g hl (fun e => by have := hr g e.symm; omega)
  exact ⟨g, e, h1, Nat.lt_of_lt_of_le hl hg.size, fun i x hx => (World.cell?_of_block (a := ⟨g, i, none⟩) hb).trans (hc i x hx), fun i => (World.frozen?_of_block (a := ⟨g, i, none⟩) hb).trans (hf i)⟩
theorem rd_row {α : Type} {c : α → Nat → Value} {sz : Nat} {w w' : World} {B : Nat} {A : Option Addr} {n : Nat} {xs : List α} (h : Rd c sz w B A n xs) {row : Option Nat} (hg : w.grownBy w' row) (hB : B ≤ w.heap.size) (hr : ∀ k, row = some k → B ≤ k) : Rd c sz w' B A n xs :=
  h.below (gr_belowR hg hr hB)
theorem wr_rowOf {w4 : World} {base : Nat} {A : Option Addr} {n : Nat} {xs : List Int} (h4 : Wr w4 base A n xs) {k : Nat} (h : 0 < n ∧ A = some ⟨k, 0, none⟩) : base ≤ k ∧ k < w4.heap.size := by
  obtain ⟨g, e, h1, h2, _⟩ := h4.2 h.1
  rw [h.2] at e
  have : k = g := by simpa using e
  omega
set_option maxHeartbeats 400000 in
theorem markIntS_row (A : Option Addr) (n c base : Nat) (xs : List Int) (k : Int) (w : World) (hx : Wr w base A n xs) (hn : n ≤ 1000000000) (hk0 : 0 ≤ k) (hk : k ≤ 1000000000) :
    Calls Try.prog 8 #[.slice A n c, .int .i64 k] w fun e w' => e = .returned (.int .i64 (k + (n : Int))) ∧ RowOf A n w w' ∧ w.heap.size = w'.heap.size := by
  obtain ⟨row, hr1, hr2⟩ : ∃ row : Option Nat, (∀ k, A = some ⟨k, 0, none⟩ → 0 < n → row = some k) ∧ (∀ k, row = some k → 0 < n ∧ A = some ⟨k, 0, none⟩) := by
    rcases Nat.eq_zero_or_pos n with h0 | h0
    · exact ⟨none, fun k _ h => by omega, fun k h => by cases h⟩
    · obtain ⟨g, e, _⟩ := hx.2 h0
      exact ⟨some g, fun k h _ => by rw [e] at h; simpa using h, fun k h => ⟨h0, by rw [e]; simpa using h⟩⟩
  have HR := Lib.hid hr1
  have HR2 := Lib.hid hr2
  clear hr1 hr2
  go_enter Try.func8, Try.ntmps8
  go_wp2
  go_loopw [1, 5] (fun q i wr => ∃ j : Nat, j ≤ n ∧ i = .int .i64 j ∧ q = .int .i64 (k + (j : Int)) ∧ w.grownBy wr row ∧ w.heap.size = wr.heap.size ∧ Hid (0 < n → ∃ g, A = some ⟨g, 0, none⟩ ∧ (∀ j, j < n → ∃ u, wr.cell? ⟨g, j, none⟩ = some u) ∧ ∀ i, wr.frozen? ⟨g, i, none⟩ = false)) (fun _ i _ => n - (intOf i).toNat)
  case atStart =>
    refine ⟨0, Nat.zero_le _, rfl, by simp, gr_refl _ _, rfl, fun h0 => ?_⟩
    obtain ⟨g, e1, e2, e3, e4, e5⟩ := hx.2 h0
    refine ⟨g, e1, fun j hj => ?_, e5⟩
    have hl := hx.1
    obtain ⟨y, hy⟩ : ∃ y, xs[j]? = some y := ⟨xs[j]'(by omega), List.getElem?_eq_getElem _⟩
    exact ⟨_, e4 j y hy⟩
  case round =>
    obtain ⟨j, hj, rfl, rfl, hb, hsz, HW⟩ := hrel
    have HS := Lib.hid hsz
    clear hsz
    by_cases hlt : j < n
    · obtain ⟨g, rfl, hc, hf⟩ := HW.out (by omega)
      obtain rfl := HR.out g rfl (by omega)
      obtain ⟨u0, hu0⟩ := hc j hlt
      have hf0 := hf j
      have HC := Lib.hid hc
      have HF := Lib.hid hf
      clear hc hf
      have i0 : (0 : Int) ≤ (j : Int) := by omega
      have i1 : (j : Int) < (n : Int) := by omega
      go_wp2
      go_roundw
      case rel =>
        refine ⟨j + 1, by omega, by go_num, by go_num, gr_set hb _ _, by rw [HS.out]; simp [World.setCell], fun h0 => ⟨g, rfl, fun i hi => ?_, fun i => ?_⟩⟩
        · obtain ⟨u, hu⟩ := HC.out i hi
          exact cell?_setCell_some hu
        · rw [World.frozen?_setCell]
          exact HF.out i
      case measure => simp [intOf]; omega
    · go_wp2
      go_ret
      obtain rfl : j = n := by omega
      exact ⟨rfl, ⟨row, hb, HR2.out⟩, HS.out⟩
set_option maxHeartbeats 1000000 in
theorem toIntS_cap (A : Option Addr) (n c B : Nat) (xs : List Int) (w : World) (hr : Rd cI 1 w B A n xs) (hB : B ≤ w.heap.size) (hn : n ≤ 1048576) :
    Calls Try.prog 5 #[.slice A n c] w fun e w' => ∃ A', e = .returned (.slice A' n n) ∧ Wr w' w.heap.size A' n xs ∧ Below w.heap.size w w' := by
  obtain ⟨i0, hi0, hi1, hi2, hi3⟩ := info_parts infoI
  go_enter Try.func5, Try.ntmps5
  go_wp2_with (at_make; refine wpList_make_full _ rfl _ _ 22 rfl w.heap.size 3 i0 (.int .i64 0) 1 Try.underlying22 hi0 hi1 hi2 .i64 .i64 n n n rfl rfl rfl rfl (by rw [hi3]; omega) (by unfold maxLen; omega) (Nat.le_refl _) ?_; intro w1 hown hg)
  have hsz1 : w.heap.size < w1.heap.size := (hown.lt _ rfl).2
  have hfz : ∀ i, w1.frozen? ⟨w.heap.size, i, none⟩ = false := fun i => hown.frozenAt i
  have hbl : Below w.heap.size w w1 := (Below.refl _ _).grown hg (Nat.le_refl _) (by simp)
  have hcell : ∀ j, j < n → ∃ u, w1.cell? ⟨w.heap.size, j, none⟩ = some u := by
    intro j hj
    rw [hown.cellAt j (by omega)]
    have hl := hown.1
    exact ⟨_, List.getElem?_eq_getElem (by omega)⟩
  have HC := Lib.hid hcell
  have HF := Lib.hid hfz
  clear hcell hfz hown hg
  go_loopw [4] (fun i wr => ∃ k : Nat, k ≤ n ∧ i = .int .i64 k ∧ Below w.heap.size w wr ∧ w.heap.size < wr.heap.size ∧ Hid (∀ i, wr.frozen? ⟨w.heap.size, i, none⟩ = false) ∧ Hid (∀ j, j < n → ∃ u, wr.cell? ⟨w.heap.size, j, none⟩ = some u) ∧ Hid (∀ i x, i < k → xs[i]? = some x → wr.cell? ⟨w.heap.size, i, none⟩ = some (.int .i64 x))) (fun i _ => n - (intOf i).toNat)
  case atStart => exact ⟨0, Nat.zero_le _, rfl, hbl, hsz1, HF.out, HC.out, fun i x hi => by omega⟩
  case round =>
    obtain ⟨k, hk, rfl, hb, hsz, HF', HC', HX'⟩ := hrel
    by_cases hlt : k < n
    · obtain ⟨b, off, x, rfl, hbB, hx, c0⟩ := (hr.below (hb.mono hB)).atI hlt
      have HX := Lib.hid hx
      clear hx
      obtain ⟨u0, hu0⟩ := HC'.out k hlt
      have hfr0 := HF'.out k
      have j0 : (0 : Int) ≤ (k : Int) := by omega
      have j1 : (k : Int) < (n : Int) := by omega
      go_wp2
      go_roundw
      case rel =>
        refine ⟨k + 1, by omega, by go_num, hb.setCell (Nat.le_refl _) _, by simp [World.setCell]; omega, fun i => ?_, fun j hj => ?_, fun i y hi hy => ?_⟩
        · rw [World.frozen?_setCell]
          exact HF'.out i
        · obtain ⟨u, hu⟩ := HC'.out j hj
          exact cell?_setCell_some hu
        · by_cases hik : i = k
          · subst hik
            obtain rfl : x = y := by have := HX.out; rw [this] at hy; exact Option.some.inj hy
            exact World.cell?_setCell_same _ _ _ hu0
          · rw [World.cell?_setCell_other (h := by first | (simp; done) | (simp; omega))]
            exact HX'.out i y (by omega) hy
      case measure => simp [intOf]; omega
    · go_wp2
      go_ret
      obtain rfl : k = n := by omega
      refine ⟨some ⟨w.heap.size, 0, none⟩, rfl, ⟨hr.1, fun _ => ⟨_, rfl, Nat.le_refl _, hsz, fun i x hx => HX'.out i x ?_ hx, HF'.out⟩⟩, hb⟩
      have := (List.getElem?_eq_some_iff.1 hx).1
      have := hr.1
      omega
end Go.Proofs.Ytblgeehdngejpaa
