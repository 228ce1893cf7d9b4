/-
  Sums of what must be filed off; the least filed strike: contracts.
-/
import Derived.Test.YtbklljbjggoiaaaMa8
namespace Go.Proofs.Ytbklljbjggoiaaa
open Go.RowKit
set_option linter.unusedVariables false
attribute [local go_sem ↓] Go.wp_at_zero Go.wp_at_succ

def sumTo (xs : List Int) (k : Nat) : Int := (xs.take k).foldl (· + ·) 0
def sumL (xs : List Int) : Int := sumTo xs xs.length
theorem sumTo_snoc {xs : List Int} {k : Nat} {x : Int} (h : xs[k]? = some x) : sumTo xs (k + 1) = sumTo xs k + x := by
  unfold sumTo
  rw [take_snoc h, List.foldl_append]
  rfl
theorem sumTo_bd {xs : List Int} (h : ∀ x ∈ xs, -999 ≤ x ∧ x ≤ 999) : ∀ k, k ≤ xs.length → -999 * (k : Int) ≤ sumTo xs k ∧ sumTo xs k ≤ 999 * (k : Int)
  | 0, _ => by simp [sumTo]
  | k + 1, hk => by
    have h1 := sumTo_bd h k (by omega)
    have hx : xs[k]? = some (xs[k]'(by omega)) := List.getElem?_eq_getElem _
    have h2 := h _ (List.mem_of_getElem? hx)
    rw [sumTo_snoc hx]
    omega
set_option maxHeartbeats 1000000 in
theorem sum_any (A : Option Addr) (n c B : Nat) (xs : List Int) (w : World) (hr : Rd cI 1 w B A n xs) (hn : n ≤ 1000) (hb : ∀ x ∈ xs, -999 ≤ x ∧ x ≤ 999) :
    Calls Try.prog 58 #[.slice A n c] w fun e w' => e = .returned (.int .i64 (sumL xs)) ∧ w = w' := by
  have hl := hr.1
  have HBD := Lib.hid (sumTo_bd hb)
  have HB := Lib.hid hb
  clear hb
  go_enter Try.func58, Try.ntmps58
  go_wp2
  go_loop [3, 8] (fun q i => ∃ k : Nat, k ≤ n ∧ i = .int .i64 k ∧ q = .int .i64 (sumTo xs k)) (fun _ i => n - (intOf i).toNat)
  case atStart => exact ⟨0, Nat.zero_le _, rfl, rfl⟩
  case round =>
    obtain ⟨k, hk, rfl, rfl⟩ := hrel
    by_cases hlt : k < n
    · obtain ⟨b, off, x, rfl, _, hx, hc⟩ := hr.atI hlt
      have hs1 := HBD.out k (by omega)
      have hs2 := HB.out x (List.mem_of_getElem? hx)
      have HX := Lib.hid hx
      clear hx
      go_wp2
      go_round
      case rel => exact ⟨k + 1, by omega, by go_num, by rw [sumTo_snoc HX.out]⟩
      case measure => simp [intOf]; omega
    · go_wp2
      go_ret
      obtain rfl : k = n := by omega
      exact ⟨ret_int (by rw [sumL, hl]), rfl⟩
end Go.Proofs.Ytbklljbjggoiaaa
