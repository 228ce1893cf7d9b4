/-
  Slices of strings: contracts of the laws' helpers (size, conversion, equality).
-/
import Derived.Test.YtfehdpaoboiodaaSrt
import Derived.Deep.QuietTactic
import Derived.BigQuiet
namespace Go.Proofs.Ytfehdpaoboiodaa
open Go.RowKit
set_option linter.unusedVariables false
attribute [local go_sem ↓] Go.wp_at_zero Go.wp_at_succ

def SzStr (l : Int) (n : Nat) (w : World) (e : Ending) (w' : World) : Prop := ∃ r, e = .returned (.int .i64 r) ∧ (r = -1 ∨ 0 ≤ r ∧ r + n ≤ l) ∧ w = w'
set_option maxHeartbeats 1000000 in
theorem szStringS_any (A : Option Addr) (n c B : Nat) (xs : List ByteArray) (l : Int) (w : World) (hr : Rd cS 1 w B A n xs) (hn : n ≤ maxLen) (hok : ∀ x ∈ xs, x.size ≤ maxLen) (h0 : 0 ≤ l) (h1 : l ≤ 1048576) :
    Calls Try.prog 30 #[.slice A n c, .int .i64 l] w (SzStr l n w) := by
  unfold maxLen at hn
  have HOK := Lib.hid hok
  clear hok
  by_cases h : l - n < 0
  · go_enter Try.func30, Try.ntmps30
    go_wp2
    go_ret
    exact ⟨-1, rfl, .inl rfl, rfl⟩
  · go_enter Try.func30, Try.ntmps30
    go_wp2
    go_loop [1, 5] (fun q i => ∃ (k : Nat) (r : Int), k ≤ n ∧ i = .int .i64 k ∧ q = .int .i64 r ∧ 0 ≤ r ∧ r + n ≤ l) (fun _ i => n - (intOf i).toNat)
    case atStart => exact ⟨0, l - n, Nat.zero_le _, rfl, rfl, by omega, by omega⟩
    case round =>
      obtain ⟨k, r, hk, rfl, rfl, r0, r1⟩ := hrel
      by_cases hlt : k < n
      · obtain ⟨b, off, x, rfl, hbB, hx, c0⟩ := hr.atS hlt
        have hsz := HOK.out x (List.mem_of_getElem? hx)
        unfold maxLen at hsz
        clear hx
        have i0 : (0 : Int) ≤ (k : Int) := by omega
        have i1 : (k : Int) < (n : Int) := by omega
        by_cases hr2 : r - x.size < 0
        · go_wp2
          go_ret
          exact ⟨-1, rfl, .inl rfl, rfl⟩
        · go_wp2
          go_round
          case rel => exact ⟨k + 1, r - x.size, by omega, by go_num, rfl, by omega, by omega⟩
          case measure => simp [intOf]; omega
      · go_wp2
        go_ret
        exact ⟨r, rfl, .inr ⟨r0, r1⟩, rfl⟩
theorem infoS : (Try.prog.info? 9).map (fun i => (i.zero, i.size, i.bytes)) = some (some (.string ⟨#[]⟩), 1, 16) := by kernel_rfl
set_option maxHeartbeats 1000000 in
theorem toStringS_cap (A : Option Addr) (n c B : Nat) (xs : List ByteArray) (w : World) (hr : Rd cS 1 w B A n xs) (hB : B ≤ w.heap.size) (hn : n ≤ 1048576) :
    Calls Try.prog 32 #[.slice A n c] w fun e w' => ∃ A', e = .returned (.slice A' n n) ∧ WrT cS 1 w' w.heap.size A' n xs ∧ Below w.heap.size w w' := by
  obtain ⟨i0, hi0, hi1, hi2, hi3⟩ := info_parts infoS
  go_enter Try.func32, Try.ntmps32
  go_wp2_with (at_make; refine wpList_make_full _ rfl _ _ 44 rfl w.heap.size 9 i0 (.string ⟨#[]⟩) 1 Try.underlying44 hi0 hi1 hi2 .i64 .i64 n n n rfl rfl rfl rfl (by rw [hi3]; omega) (by unfold maxLen; omega) (Nat.le_refl _) ?_; intro w1 hown hg)
  have hsz1 : w.heap.size < w1.heap.size := (hown.lt _ rfl).2
  have hfz : ∀ i, w1.frozen? ⟨w.heap.size, i, none⟩ = false := fun i => hown.frozenAt i
  have hbl : Below w.heap.size w w1 := (Below.refl _ _).grown hg (Nat.le_refl _) (by simp)
  have hcell : ∀ j, j < n → ∃ u, w1.cell? ⟨w.heap.size, j, none⟩ = some u := by
    intro j hj
    rw [hown.cellAt j (by omega)]
    have hl := hown.1
    exact ⟨_, List.getElem?_eq_getElem (by omega)⟩
  have HC := Lib.hid hcell
  have HF := Lib.hid hfz
  clear hcell hfz hown hg
  go_loopw [4] (fun i wr => ∃ k : Nat, k ≤ n ∧ i = .int .i64 k ∧ Below w.heap.size w wr ∧ w.heap.size < wr.heap.size ∧ Hid (∀ i, wr.frozen? ⟨w.heap.size, i, none⟩ = false) ∧ Hid (∀ j, j < n → ∃ u, wr.cell? ⟨w.heap.size, j, none⟩ = some u) ∧ Hid (∀ i x, i < k → xs[i]? = some x → wr.cell? ⟨w.heap.size, i, none⟩ = some (.string x))) (fun i _ => n - (intOf i).toNat)
  case atStart => exact ⟨0, Nat.zero_le _, rfl, hbl, hsz1, HF.out, HC.out, fun i x hi => by omega⟩
  case round =>
    obtain ⟨k, hk, rfl, hb, hsz, HF', HC', HX'⟩ := hrel
    by_cases hlt : k < n
    · obtain ⟨b, off, x, rfl, hbB, hx, c0⟩ := (hr.below (hb.mono hB)).atS hlt
      have HX := Lib.hid hx
      clear hx
      obtain ⟨u0, hu0⟩ := HC'.out k hlt
      have hfr0 := HF'.out k
      have j0 : (0 : Int) ≤ (k : Int) := by omega
      have j1 : (k : Int) < (n : Int) := by omega
      go_wp2
      go_roundw
      case rel =>
        refine ⟨k + 1, by omega, by go_num, hb.setCell (Nat.le_refl _) _, by simp [World.setCell]; omega, fun i => ?_, fun j hj => ?_, fun i y hi hy => ?_⟩
        · rw [World.frozen?_setCell]
          exact HF'.out i
        · obtain ⟨u, hu⟩ := HC'.out j hj
          exact cell?_setCell_some hu
        · by_cases hik : i = k
          · subst hik
            obtain rfl : x = y := by have := HX.out; rw [this] at hy; exact Option.some.inj hy
            exact World.cell?_setCell_same _ _ _ hu0
          · rw [World.cell?_setCell_other (h := by first | (simp; done) | (simp; omega))]
            exact HX'.out i y (by omega) hy
      case measure => simp [intOf]; omega
    · go_wp2
      go_ret
      obtain rfl : k = n := by omega
      refine ⟨some ⟨w.heap.size, 0, none⟩, rfl, ⟨hr.1, fun _ => ⟨_, rfl, Nat.le_refl _, hsz, fun i x hx j hj => ?_, HF'.out⟩⟩, hb⟩
      obtain rfl : j = 0 := by omega
      have := (List.getElem?_eq_some_iff.1 hx).1
      have := hr.1
      simpa [cS] using HX'.out i x (by omega) hx
set_option maxHeartbeats 1000000 in
theorem eqStringS_same (A A' : Option Addr) (n c c' B B' : Nat) (xs : List ByteArray) (w : World) (hx : Rd cS 1 w B A n xs) (hy : Rd cS 1 w B' A' n xs) (hn : n ≤ maxLen) :
    Calls Try.prog 34 #[.slice A n c, .slice A' n c'] w (QB true w) := by
  unfold maxLen at hn
  have hneq : ((n : Int) != (n : Int)) = false := by simp
  go_enter Try.func34, Try.ntmps34
  go_wp2
  go_loopw [5] (fun i wr => ∃ k m : Nat, k ≤ n ∧ i = .int .i64 k ∧ wr = w.drewN m) (fun i _ => n - (intOf i).toNat)
  case atStart => exact ⟨0, 0, Nat.zero_le _, rfl, rfl⟩
  case round =>
    obtain ⟨k, m, hk, rfl, rfl⟩ := hrel
    by_cases hlt : k < n
    · obtain ⟨b, off, x, rfl, _, hxk, hcx⟩ := hx.atS hlt
      obtain ⟨b', off', y, rfl, _, hyk, hcy⟩ := hy.atS hlt
      obtain rfl : x = y := by rw [hxk] at hyk; exact Option.some.inj hyk
      clear hxk hyk
      have i0 : (0 : Int) ≤ (k : Int) := by omega
      have i1 : (k : Int) < (n : Int) := by omega
      go_wp2
      go_quiet (fail)
      go_wp2
      go_roundw
      case rel => exact ⟨k + 1, _, by omega, by go_num, rfl⟩
      case measure => simp [intOf]; omega
    · go_wp2
      go_ret
      exact ⟨rfl, _, rfl⟩
end Go.Proofs.Ytfehdpaoboiodaa
