/-
  Ends that several laws share.
-/
import Derived.Test.YtfehdpaoboiodaaSlc
namespace Go.Proofs.Ytfehdpaoboiodaa
open Go.RowKit
set_option linter.unusedVariables false

def oV (b : Bool) (x : Int) : Int := if b then x else 0
theorem oV_no {b : Bool} {x : Int} (h : b = false) : oV b x = 0 := by rw [h]; rfl
theorem oV_yes {b : Bool} {x : Int} (h : b = true) : oV b x = x := by rw [h]; rfl
/-- returns a number and a bool -/
def PairB (x : Int) (b : Bool) (w : World) (e : Ending) (w' : World) : Prop := e = .returned (.tuple #[.int .i64 x, .bool b]) ∧ Below w.heap.size w w'
theorem pair_b {x y : Int} {b c : Bool} {w w' : World} (h : x = y) (h' : b = c) (hb : Below w.heap.size w w') : PairB y c w (.returned (.tuple #[.int .i64 x, .bool b])) w' := by subst h; subst h'; exact ⟨rfl, hb⟩
/-- returns a new slice of int that reads xs -/
def RetL (xs : List Int) (w : World) (e : Ending) (w' : World) : Prop := ∃ A c, e = .returned (.slice A xs.length c) ∧ Wr w' w.heap.size A xs.length xs ∧ Below w.heap.size w w'
theorem wr_lower {W0 X w8 : World} {A : Option Addr} {n : Nat} {xs : List Int} (h : Wr w8 X.heap.size A n xs) (hb : Below W0.heap.size W0 X) : Wr w8 W0.heap.size A n xs :=
  ⟨h.1, fun hn => by
    obtain ⟨g, e1, e2, e3⟩ := h.2 hn
    exact ⟨g, e1, Nat.le_trans hb.size e2, e3⟩⟩
theorem rets_nil {w w' : World} {xs : List Int} {b : Bool} (h : xs = []) (hb : Below w.heap.size w w') (A : Option Addr) (c : Nat) : RetS xs b w (.returned (.tuple #[.slice A 0 c, .bool b])) w' := by
  subst h
  exact ⟨A, c, rfl, ⟨rfl, fun hn => absurd hn (by simp)⟩, hb⟩
theorem ret_val {a b : Value} (h : a = b) : Ending.returned a = .returned b := by rw [h]
theorem infoI : (Try.prog.info? 3).map (fun i => (i.zero, i.size, i.bytes)) = some (some (.int .i64 0), 1, 8) := by kernel_rfl
theorem l1Least_any (a b : Int) (w : World) : Calls Try.prog 63 #[.int .i64 a, .int .i64 b] w fun e w' => e = .returned (.int .i64 (min a b)) ∧ w = w' := by
  by_cases h : a < b
  · go_enter Try.func63, Try.ntmps63
    go_wp2
    go_ret
    exact ⟨ret_int (show a = min a b by omega), rfl⟩
  · go_enter Try.func63, Try.ntmps63
    go_wp2
    go_ret
    exact ⟨ret_int (show b = min a b by omega), rfl⟩
end Go.Proofs.Ytfehdpaoboiodaa
