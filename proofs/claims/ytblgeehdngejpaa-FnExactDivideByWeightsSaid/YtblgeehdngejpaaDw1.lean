/-
  DivideByWeights: the sum, the closure that the sort asks.
-/
import Derived.Test.YtblgeehdngejpaaDw0
import Derived.Test.YtblgeehdngejpaaSlc
namespace Go.Proofs.Ytblgeehdngejpaa
open Go.RowKit
set_option linter.unusedVariables false

set_option maxHeartbeats 1000000 in
theorem sum_any (A : Option Addr) (n c B : Nat) (xs : List Int) (M : Int) (w : World) (hr : Rd cI 1 w B A n xs) (hn : n ≤ 1048576) (hM : M ≤ 6300000000000) (hb : ∀ x ∈ xs, 0 ≤ x ∧ x ≤ M) :
    Calls Try.prog 13 #[.slice A n c] w fun e w' => e = .returned (.int .i64 (sumL xs)) ∧ w = w' := by
  have hl := hr.1
  have hb' : ∀ x ∈ xs, 0 ≤ x ∧ x ≤ 6300000000000 := fun x hx => by have := hb x hx; omega
  have HBD := Lib.hid (sumTo_bd hb')
  have HB := Lib.hid hb'
  clear hb hb'
  go_enter Try.func13, Try.ntmps13
  go_wp2
  go_loop [3, 8] (fun q i => ∃ k : Nat, k ≤ n ∧ i = .int .i64 k ∧ q = .int .i64 (sumTo xs k)) (fun _ i => n - (intOf i).toNat)
  case atStart => exact ⟨0, Nat.zero_le _, rfl, rfl⟩
  case round =>
    obtain ⟨k, hk, rfl, rfl⟩ := hrel
    by_cases hlt : k < n
    · obtain ⟨b, off, x, rfl, _, hx, hc⟩ := hr.atI hlt
      have hs1 := HBD.out k (by omega)
      have hs2 := HB.out x (List.mem_of_getElem? hx)
      have HX := Lib.hid hx
      clear hx
      go_wp2
      go_round
      case rel => exact ⟨k + 1, by omega, by go_num, by rw [sumTo_snoc HX.out]⟩
      case measure => simp [intOf]; omega
    · go_wp2
      go_ret
      obtain rfl : k = n := by omega
      exact ⟨ret_int (by rw [sumL, hl]), rfl⟩
theorem mul_bd {T x : Int} (hT : 0 ≤ T ∧ T ≤ 100000) (hx : 0 ≤ x ∧ x ≤ 1000000) : 0 ≤ T * x ∧ T * x ≤ 100000000000 := by
  have h1 : T * x ≤ 100000 * 1000000 := Int.mul_le_mul hT.2 hx.2 hx.1 (by omega)
  exact ⟨Int.mul_nonneg hT.1 hx.1, by omega⟩
set_option maxHeartbeats 2000000 in
theorem less_any (tb wb ob ab : Nat) (T S : Int) (xs : List Int) (A : Option Addr) (n cA blk off c B : Nat) (dk : Array Int) (W : World) (h32 : n ≤ 32) (hS : 0 < S) (hT : 0 ≤ T ∧ T ≤ 100000) (hx : ∀ x ∈ xs, 0 ≤ x ∧ x ≤ 1000000)
    (ct : W.cell? ⟨tb, 0, none⟩ = some (.int .i64 T)) (cw : W.cell? ⟨wb, 0, none⟩ = some (.slice A n cA)) (co : W.cell? ⟨ob, 0, none⟩ = some (.slice (some ⟨blk, off, none⟩) n c)) (ca : W.cell? ⟨ab, 0, none⟩ = some (.int .i64 S))
    (hr : Rd cI 1 W B A n xs) (hd : ∀ t, t < n → W.cell? ⟨blk, off + t, none⟩ = some (.int .i64 (dk[t]! % (n : Int)))) (i j : Nat) (hi : i < n) (hj : j < n) :
    Calls Try.prog 15 #[.int .i64 i, .int .i64 j, .pointer (some ⟨tb, 0, none⟩), .pointer (some ⟨wb, 0, none⟩), .pointer (some ⟨ob, 0, none⟩), .pointer (some ⟨ab, 0, none⟩)] W fun e w' => e = .returned (.bool (ltW xs T S n dk[i]! dk[j]!)) ∧ ∃ q, w' = W.drewN q := by
  have di := hd i hi
  have dj := hd j hj
  have n1 := Int.emod_nonneg dk[i]! (show (n : Int) ≠ 0 by omega)
  have n2 := Int.emod_lt_of_pos dk[i]! (show 0 < (n : Int) by omega)
  have m1 := Int.emod_nonneg dk[j]! (show (n : Int) ≠ 0 by omega)
  have m2 := Int.emod_lt_of_pos dk[j]! (show 0 < (n : Int) by omega)
  obtain ⟨p, hp⟩ := Int.eq_ofNat_of_zero_le n1
  obtain ⟨q, hq⟩ := Int.eq_ofNat_of_zero_le m1
  obtain ⟨b, bo, x, rfl, _, hxp, cx⟩ := hr.atI (show p < n by omega)
  obtain ⟨b', bo', y, e, _, hyq, cy⟩ := hr.atI (show q < n by omega)
  obtain ⟨rfl, rfl⟩ : b = b' ∧ bo = bo' := by simpa using e
  have LV : ltW xs T S n dk[i]! dk[j]! = decide (T * y % S < T * x % S) := by
    unfold ltW
    rw [hp, hq]
    simp only [Int.toNat_natCast, rmW_at hxp, rmW_at hyq]
  rw [LV]
  rw [hp] at di
  rw [hq] at dj
  have bx := mul_bd hT (hx x (List.mem_of_getElem? hxp))
  have by' := mul_bd hT (hx y (List.mem_of_getElem? hyq))
  have w1 : IntKind.i64.wrap (T * x) = T * x := IntWalk.i64_in _ (by omega)
  have w2 : IntKind.i64.wrap (T * y) = T * y := IntWalk.i64_in _ (by omega)
  have r1 := Int.emod_nonneg (T * x) (show S ≠ 0 by omega)
  have r2 := Int.emod_nonneg (T * y) (show S ≠ 0 by omega)
  have t1 : (T * x).tmod S = T * x % S := by rw [Int.tmod_eq_emod_of_nonneg bx.1]
  have t2 : (T * y).tmod S = T * y % S := by rw [Int.tmod_eq_emod_of_nonneg by'.1]
  have hS0 : S ≠ 0 := by omega
  have i0 : (0 : Int) ≤ (i : Int) := by omega
  have i1 : (i : Int) < (n : Int) := by omega
  have j0 : (0 : Int) ≤ (j : Int) := by omega
  have j1 : (j : Int) < (n : Int) := by omega
  have p0 : (0 : Int) ≤ (p : Int) := by omega
  have p1 : (p : Int) < (n : Int) := by omega
  have q0 : (0 : Int) ≤ (q : Int) := by omega
  have q1 : (q : Int) < (n : Int) := by omega
  clear LV hp hq hxp hyq e hr hd hx n1 n2 m1 m2 bx by'
  go_enter Try.func15, Try.ntmps15
  go_wp2
  go_quiet (fail)
  go_wp2
  go_ret
  exact ⟨rfl, nq, rfl⟩
end Go.Proofs.Ytblgeehdngejpaa
