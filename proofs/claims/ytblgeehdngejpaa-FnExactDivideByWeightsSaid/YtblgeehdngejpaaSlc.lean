/-
  Contracts of the laws' own helpers over slices of int: equal, mark, held.
-/
import Derived.Test.YtblgeehdngejpaaNum
import Derived.Deep.QuietTactic
import Derived.BigQuiet
import Derived.Deep.AppendLies
namespace Go.Proofs.Ytblgeehdngejpaa
open Go.RowKit
set_option linter.unusedVariables false

def eqL (xs ys : List Int) : Bool := decide (xs = ys)
theorem eqL_len {xs ys : List Int} (h : xs.length ≠ ys.length) : eqL xs ys = false := by
  unfold eqL
  exact decide_eq_false (fun e => h (by rw [e]))
theorem eqL_no {xs ys : List Int} {k : Nat} {x y : Int} (hx : xs[k]? = some x) (hy : ys[k]? = some y) (h : x ≠ y) : eqL xs ys = false := by
  unfold eqL
  refine decide_eq_false (fun e => h ?_)
  subst e
  rw [hx] at hy
  exact Option.some.inj hy
theorem eqL_same (xs : List Int) : eqL xs xs = true := by simp [eqL]
theorem take_eq_snoc {α : Type} {xs ys : List α} {k : Nat} {x : α} (hx : xs[k]? = some x) (hy : ys[k]? = some x) (h : xs.take k = ys.take k) : xs.take (k + 1) = ys.take (k + 1) := by
  rw [take_snoc hx, take_snoc hy, h]
theorem take_eq_end {α : Type} {xs ys : List α} {k : Nat} (h1 : xs.length ≤ k) (h2 : ys.length ≤ k) (h : xs.take k = ys.take k) : xs = ys := by
  rwa [List.take_of_length_le h1, List.take_of_length_le h2] at h
/-- returns b; the world has drawn at most -/
def QB (b : Bool) (w : World) (e : Ending) (w' : World) : Prop := e = .returned (.bool b) ∧ ∃ m, w' = w.drewN m

set_option maxHeartbeats 400000 in
theorem eqIntS_any (A A' : Option Addr) (n c n' c' B B' : Nat) (xs ys : List Int) (w : World) (hx : Rd cI 1 w B A n xs) (hy : Rd cI 1 w B' A' n' ys) (hn : n ≤ maxLen) (hn' : n' ≤ maxLen) :
    Calls Try.prog 7 #[.slice A n c, .slice A' n' c'] w (QB (eqL xs ys) w) := by
  unfold maxLen at hn hn'
  by_cases hlen : n = n'
  · obtain rfl : n = n' := hlen
    have hneq : ((n : Int) != (n : Int)) = false := by simp
    go_enter Try.func7, Try.ntmps7
    go_wp2
    go_loopw [5] (fun i wr => ∃ k m : Nat, k ≤ n ∧ i = .int .i64 k ∧ wr = w.drewN m ∧ xs.take k = ys.take k) (fun i _ => n - (intOf i).toNat)
    case atStart => exact ⟨0, 0, Nat.zero_le _, rfl, rfl, rfl⟩
    case round =>
      obtain ⟨k, m, hk, rfl, rfl, htk⟩ := hrel
      have HT := Lib.hid htk
      clear htk
      by_cases hlt : k < n
      · obtain ⟨b, off, x, rfl, _, hxk, hcx⟩ := hx.atI hlt
        obtain ⟨b', off', y, rfl, _, hyk, hcy⟩ := hy.atI hlt
        have HX := Lib.hid hxk
        have HY := Lib.hid hyk
        clear hxk hyk
        have i0 : (0 : Int) ≤ (k : Int) := by omega
        have i1 : (k : Int) < (n : Int) := by omega
        by_cases hxy : x = y
        · obtain rfl : x = y := hxy
          go_wp2
          go_quiet (fail)
          go_wp2
          go_roundw
          case rel => exact ⟨k + 1, _, by omega, by go_num, rfl, take_eq_snoc HX.out HY.out HT.out⟩
          case measure => simp [intOf]; omega
        · have hb : (x != y) = true := by simpa using hxy
          have HN := Lib.hid hxy
          clear hxy
          go_wp2
          go_quiet (fail)
          go_wp2
          go_ret
          exact ⟨ret_bool (eqL_no HX.out HY.out HN.out).symm, _, World.drewN_drewN _ _ _⟩
      · go_wp2
        go_ret
        have hl := hx.1
        have hl' := hy.1
        exact ⟨ret_bool (by rw [take_eq_end (by omega) (by omega) HT.out]; exact (eqL_same _).symm), _, rfl⟩
  · have hl := hx.1
    have hl' := hy.1
    have HE := Lib.hid (eqL_len (xs := xs) (ys := ys) (by omega))
    have hneq : ((n : Int) != (n' : Int)) = true := by simp; omega
    go_enter Try.func7, Try.ntmps7
    go_wp2
    go_ret
    exact ⟨ret_bool HE.out.symm, 0, rfl⟩
/-- the numbers that mark writes -/
def upFrom (k : Int) (n : Nat) : List Int := (List.range n).map fun i : Nat => k + (i : Int)
theorem upFrom_get {k : Int} {n i : Nat} (h : i < n) : (upFrom k n)[i]? = some (k + (i : Int)) := by simp [upFrom, h]
theorem upFrom_len (k : Int) (n : Nat) : (upFrom k n).length = n := by simp [upFrom]
/-- a slice that may be written: its elements lie in one block from base on, none frozen -/
def Wr (w : World) (base : Nat) (A : Option Addr) (n : Nat) (xs : List Int) : Prop :=
  xs.length = n ∧ (0 < n → ∃ g, A = some ⟨g, 0, none⟩ ∧ base ≤ g ∧ g < w.heap.size ∧ (∀ i x, xs[i]? = some x → w.cell? ⟨g, i, none⟩ = some (.int .i64 x)) ∧ ∀ i, w.frozen? ⟨g, i, none⟩ = false)
theorem Wr.rd {w : World} {base : Nat} {A : Option Addr} {n : Nat} {xs : List Int} (h : Wr w base A n xs) : Rd cI 1 w w.heap.size A n xs := by
  refine ⟨h.1, fun hn => ?_⟩
  obtain ⟨g, e, _, hl, hc, _⟩ := h.2 hn
  exact ⟨g, 0, e, hl, fun i x hx j hj => by
    have hj0 : j = 0 := by omega
    subst hj0
    simpa [cI] using hc i x hx⟩
theorem Wr.below {w w' : World} {base : Nat} {A : Option Addr} {n : Nat} {xs : List Int} (h : Wr w base A n xs) (hb : Below w.heap.size w w') : Wr w' base A n xs := by
  refine ⟨h.1, fun hn => ?_⟩
  obtain ⟨g, e, h1, hl, hc, hf⟩ := h.2 hn
  exact ⟨g, e, h1, Nat.lt_of_lt_of_le hl hb.size, fun i x hx => (hb.cell (p := ⟨g, i, none⟩) hl).trans (hc i x hx), fun i => (hb.frozen (p := ⟨g, i, none⟩) hl).trans (hf i)⟩
theorem Wr.drew {w : World} {base : Nat} {A : Option Addr} {n : Nat} {xs : List Int} (h : Wr w base A n xs) : Wr w.drew base A n xs := h
theorem wr_new {w : World} {base : Nat} (hb : base ≤ w.heap.size) (xs : List Int) (t : TypeId) (cs : Array Value) (hcs : cs = (xs.map (Value.int .i64)).toArray) :
    Wr (w.alloc (.cells cs t)) base (some ⟨w.heap.size, 0, none⟩) xs.length xs := by
  subst hcs
  refine ⟨rfl, fun _ => ⟨_, rfl, hb, by simp, fun i x hx => ?_, fun i => ?_⟩⟩
  · rw [World.cell?_alloc_new]
    simp [hx]
  · exact World.frozen?_alloc_new _ _ _ _
/-- returns a new slice of int that reads xs, and b -/
def RetS (xs : List Int) (b : Bool) (w : World) (e : Ending) (w' : World) : Prop := ∃ A c, e = .returned (.tuple #[.slice A xs.length c, .bool b]) ∧ Wr w' w.heap.size A xs.length xs ∧ Below w.heap.size w w'
theorem own_below {w w' : World} {base : Nat} {e : TypeId} {sz : Nat} {v : Value} {n : Nat} {xs : List Value} (h : w.ownsRow base e sz v n xs) (hb : Below w.heap.size w w') : w'.ownsRow base e sz v n xs :=
  h.kept (row := none) ⟨hb.os, hb.tape, hb.output, hb.size, fun k hk _ => hb.block k hk⟩ (by
    rcases hv : v.ownBlock with _ | g
    · exact .inl rfl
    · exact .inr (by simp))
theorem own_base {w : World} {base base' : Nat} {e : TypeId} {sz : Nat} {v : Value} {n : Nat} {xs : List Value} (h : w.ownsRow base e sz v n xs) (hb : base' ≤ base) : w.ownsRow base' e sz v n xs := by
  refine ⟨h.1, ?_⟩
  rcases h.2 with h' | ⟨g, cap, cur, h1, h2, h3⟩
  · exact .inl h'
  · exact .inr ⟨g, cap, cur, h1, by omega, h3⟩
theorem own_wr {w : World} {base : Nat} {e : TypeId} {v : Value} {n : Nat} {xs : List Int} (h : w.ownsRow base e 1 v n (xs.map (Value.int .i64))) : ∃ A c, v = .slice A n c ∧ Wr w base A n xs := by
  have hl : xs.length = n := by simpa using h.1
  rcases Nat.eq_zero_or_pos n with h0 | h0
  · subst h0
    rcases h.2 with ⟨rfl, _⟩ | ⟨g, cap, cur, rfl, _⟩
    · exact ⟨none, 0, rfl, hl, fun hn => absurd hn (by omega)⟩
    · exact ⟨_, cap, rfl, hl, fun hn => absurd hn (by omega)⟩
  · obtain ⟨g, cap, rfl, hb, hlt⟩ := h.form h0
    refine ⟨_, cap, rfl, hl, fun _ => ⟨g, rfl, hb, hlt, fun i x hx => ?_, fun i => h.frozenAt i⟩⟩
    have hi := (List.getElem?_eq_some_iff.1 hx).1
    rw [h.cellAt i (by omega), List.getElem?_map, hx]
    rfl
theorem below_own {a w w' : World} {v : Value} {base : Nat} (hb : Below base a w) (hg : w.grownBy w' v.ownBlock) (h1 : ∀ k, v.ownBlock = some k → base ≤ k) (h2 : base ≤ w.heap.size) : Below base a w' := hb.grown hg h2 h1
theorem set_take {α : Type} {xs : List α} {k : Nat} {x y : α} (h : xs[k]? = some x) : (xs.set k y).take (k + 1) = xs.take k ++ [y] := by
  rw [take_snoc (x := y)]
  · rw [List.take_set_of_le (Nat.le_refl _)]
  · have := (List.getElem?_eq_some_iff.1 h).1
    simp [this]
theorem upFrom_snoc (k : Int) (n : Nat) : upFrom k n ++ [k + (n : Int)] = upFrom k (n + 1) := by simp [upFrom, List.range_succ]
set_option maxHeartbeats 400000 in
theorem markIntS_any (A : Option Addr) (n c base : Nat) (xs : List Int) (k : Int) (w : World) (hx : Wr w base A n xs) (hn : n ≤ 1000000000) (hk0 : 0 ≤ k) (hk : k ≤ 1000000) :
    Calls Try.prog 8 #[.slice A n c, .int .i64 k] w fun e w' => e = .returned (.int .i64 (k + (n : Int))) ∧ Wr w' base A n (upFrom k n) ∧ Below base w w' ∧ w.heap.size = w'.heap.size := by
  go_enter Try.func8, Try.ntmps8
  go_wp2
  go_loopw [1, 5] (fun q i wr => ∃ j : Nat, j ≤ n ∧ i = .int .i64 j ∧ q = .int .i64 (k + (j : Int)) ∧ (∃ ys : List Int, Wr wr base A n ys ∧ ys.take j = upFrom k j) ∧ Below base w wr ∧ w.heap.size = wr.heap.size) (fun _ i _ => n - (intOf i).toNat)
  case atStart => exact ⟨0, Nat.zero_le _, rfl, by simp, ⟨xs, hx, by simp [upFrom]⟩, Below.refl _ _, rfl⟩
  case round =>
    obtain ⟨j, hj, rfl, rfl, ⟨ys, hys, htk⟩, hb, hsz⟩ := hrel
    have HT := Lib.hid htk
    have HS := Lib.hid hsz
    clear htk hsz
    by_cases hlt : j < n
    · obtain ⟨g, rfl, hg1, hg2, hc, hf⟩ := hys.2 (by omega)
      have hyl := hys.1
      obtain ⟨y, hyj⟩ : ∃ y, ys[j]? = some y := ⟨ys[j]'(by omega), List.getElem?_eq_getElem (by omega)⟩
      have hcj := hc j _ hyj
      have hfj := hf j
      have HC := Lib.hid hc
      have HF := Lib.hid hf
      have HY := Lib.hid hyj
      have HL := Lib.hid hyl
      clear hc hf hyj hyl
      have i0 : (0 : Int) ≤ (j : Int) := by omega
      have i1 : (j : Int) < (n : Int) := by omega
      go_wp2
      go_roundw
      case rel =>
        have hl := HL.out
        refine ⟨j + 1, by omega, by go_num, by go_num, ⟨ys.set j (k + (j : Int)), ⟨by simpa using hl, fun _ => ⟨g, rfl, hg1, by simpa [World.setCell] using hg2, fun i x hx => ?_, fun i => ?_⟩⟩, by rw [set_take HY.out, HT.out, upFrom_snoc]⟩, hb.setCell hg1 _, by rw [HS.out]; simp [World.setCell]⟩
        · by_cases hij : i = j
          · subst hij
            rw [List.getElem?_set_self (by omega)] at hx
            cases hx
            exact World.cell?_setCell_same _ _ _ (HC.out i _ HY.out)
          · rw [List.getElem?_set_ne (by omega)] at hx
            rw [World.cell?_setCell_other (h := by simp only [ne_eq, Addr.mk.injEq, true_and, and_true]; omega)]
            exact HC.out i x hx
        · rw [World.frozen?_setCell]
          exact HF.out i
      case measure => simp [intOf]; omega
    · go_wp2
      go_ret
      obtain rfl : j = n := by omega
      have hl := hys.1
      have htk := HT.out
      rw [List.take_of_length_le (by omega)] at htk
      subst htk
      exact ⟨rfl, hys, hb, HS.out⟩
set_option maxHeartbeats 400000 in
theorem heldIntS_any (A : Option Addr) (n c B : Nat) (k : Int) (w : World) (hx : Rd cI 1 w B A n (upFrom k n)) (hn : n ≤ 1000000000) (hk0 : 0 ≤ k) (hk : k ≤ 1000000) :
    Calls Try.prog 9 #[.slice A n c, .int .i64 k] w fun e w' => e = .returned (.int .i64 (k + (n : Int))) ∧ w = w' := by
  go_enter Try.func9, Try.ntmps9
  go_wp2
  go_loop [1, 5] (fun q i => ∃ j : Nat, j ≤ n ∧ i = .int .i64 j ∧ q = .int .i64 (k + (j : Int))) (fun _ i => n - (intOf i).toNat)
  case atStart => exact ⟨0, Nat.zero_le _, rfl, by simp⟩
  case round =>
    obtain ⟨j, hj, rfl, rfl⟩ := hrel
    by_cases hlt : j < n
    · obtain ⟨b, off, x, rfl, _, hxj, hc⟩ := hx.atI hlt
      rw [upFrom_get hlt] at hxj
      obtain rfl : k + (j : Int) = x := by simpa using hxj
      clear hxj
      go_wp2
      go_round
      case rel => exact ⟨j + 1, by omega, by go_num, by go_num⟩
      case measure => simp [intOf]; omega
    · go_wp2
      go_ret
      obtain rfl : j = n := by omega
      exact ⟨rfl, rfl⟩
end Go.Proofs.Ytblgeehdngejpaa
