/-
  The need of copy: words' validity, the counts, contracts of both sides.
-/
import Derived.Test.YtfehdpaoboiodaaTy7
namespace Go.Proofs.Ytfehdpaoboiodaa
open Go.RowKit
set_option linter.unusedVariables false
attribute [local go_sem ↓] Go.wp_at_zero Go.wp_at_succ

def wordsB (ws : List ByteArray) : Bool := ws.all wordB && decide (ws.length ≤ 40)
set_option maxHeartbeats 400000 in
theorem tyWords_any (A : Option Addr) (n c B : Nat) (ws : List ByteArray) (w : World) (hr : Rd cS 1 w B A n ws) (hn : n ≤ maxLen) (hok : ∀ x ∈ ws, x.size ≤ maxLen) :
    Calls Try.prog 57 #[.slice A n c] w fun e w' => e = .returned (.bool (wordsB ws)) ∧ w = w' := by
  unfold maxLen at hn
  have HOK := Lib.hid hok
  clear hok
  have hl := hr.1
  go_enter Try.func57, Try.ntmps57
  go_wp2
  go_loop [7] (fun i => ∃ k : Nat, k ≤ n ∧ i = .int .i64 k ∧ Hid ((ws.take k).all wordB = true)) (fun i => n - (intOf i).toNat)
  case atStart => exact ⟨0, Nat.zero_le _, rfl, rfl⟩
  case round =>
    obtain ⟨k, hk, rfl, HA⟩ := hrel
    by_cases hlt : k < n
    · obtain ⟨b, off, s, rfl, _, hs, hc⟩ := hr.atS hlt
      have HS := Lib.hid hs
      have HZ := Lib.hid (HOK.out s (List.mem_of_getElem? hs))
      clear hs
      rcases hw : wordB s with _ | _
      · have HW := Lib.hid hw
        go_wp2_with (go_at_call 70; refine (tyWord_any _ _ HZ.out).mono ?_; rw [HW.out]; rintro e w' ⟨rfl, rfl⟩)
        go_ret
        exact ⟨ret_bool (by unfold wordsB; rw [all_no HS.out HW.out, Bool.false_and]), rfl⟩
      · have HW := Lib.hid hw
        go_wp2_with (go_at_call 70; refine (tyWord_any _ _ HZ.out).mono ?_; rw [HW.out]; rintro e w' ⟨rfl, rfl⟩)
        go_round
        case rel => exact ⟨k + 1, by omega, by go_num, all_snoc HS.out HA.out HW.out⟩
        case measure => simp [intOf]; omega
    · obtain rfl : k = n := by omega
      have HE := Lib.hid (show wordsB ws = decide (ws.length ≤ 40) by unfold wordsB; rw [all_end (by omega) HA.out, Bool.true_and])
      by_cases h8 : k ≤ 40
      all_goals
        go_wp2
        go_ret
        exact ⟨ret_bool (by rw [HE.out, hl]; first | rfl | (rw [decide_eq_decide]; omega) | (simp; omega)), rfl⟩
set_option maxHeartbeats 400000 in
theorem areWords_any (A : Option Addr) (n c B : Nat) (ws : List ByteArray) (w : World) (hr : Rd cS 1 w B A n ws) (hn : n ≤ maxLen) (hok : ∀ x ∈ ws, x.size ≤ maxLen) :
    Calls Try.prog 58 #[.slice A n c] w fun e w' => e = .returned (.bool (wordsB ws)) ∧ w = w' := by
  unfold maxLen at hn
  have HOK := Lib.hid hok
  clear hok
  have hl := hr.1
  go_enter Try.func58, Try.ntmps58
  go_wp2
  go_loop [7] (fun i => ∃ k : Nat, k ≤ n ∧ i = .int .i64 k ∧ Hid ((ws.take k).all wordB = true)) (fun i => n - (intOf i).toNat)
  case atStart => exact ⟨0, Nat.zero_le _, rfl, rfl⟩
  case round =>
    obtain ⟨k, hk, rfl, HA⟩ := hrel
    by_cases hlt : k < n
    · obtain ⟨b, off, s, rfl, _, hs, hc⟩ := hr.atS hlt
      have HS := Lib.hid hs
      have HZ := Lib.hid (HOK.out s (List.mem_of_getElem? hs))
      clear hs
      rcases hw : wordB s with _ | _
      · have HW := Lib.hid hw
        go_wp2_with (go_at_call 72; refine (isWord_any _ _ HZ.out).mono ?_; rw [HW.out]; rintro e w' ⟨rfl, rfl⟩)
        go_ret
        exact ⟨ret_bool (by unfold wordsB; rw [all_no HS.out HW.out, Bool.false_and]), rfl⟩
      · have HW := Lib.hid hw
        go_wp2_with (go_at_call 72; refine (isWord_any _ _ HZ.out).mono ?_; rw [HW.out]; rintro e w' ⟨rfl, rfl⟩)
        go_round
        case rel => exact ⟨k + 1, by omega, by go_num, all_snoc HS.out HA.out HW.out⟩
        case measure => simp [intOf]; omega
    · obtain rfl : k = n := by omega
      have HE := Lib.hid (show wordsB ws = decide (ws.length ≤ 40) by unfold wordsB; rw [all_end (by omega) HA.out, Bool.true_and])
      by_cases h8 : k ≤ 40
      all_goals
        go_wp2
        go_ret
        exact ⟨ret_bool (by rw [HE.out, hl]; first | rfl | (rw [decide_eq_decide]; omega) | (simp; omega)), rfl⟩
theorem words_each {ws : List ByteArray} (h : wordsB ws = true) : (∀ s ∈ ws, wordB s = true) ∧ ws.length ≤ 40 := by
  unfold wordsB at h
  rw [Bool.and_eq_true] at h
  exact ⟨List.all_eq_true.1 h.1, of_decide_eq_true h.2⟩
/-! ### counts -/
def addTo (N L : List Int) : Nat → List Int
  | 0 => N
  | j + 1 => match L[j]? with
    | some i => (addTo N L j).set i.toNat ((addTo N L j).getD i.toNat 0 + 1)
    | none => addTo N L j
theorem addTo_len (N L : List Int) : ∀ j, (addTo N L j).length = N.length
  | 0 => rfl
  | j + 1 => by
    rw [addTo]
    split
    · rw [List.length_set]; exact addTo_len N L j
    · exact addTo_len N L j
theorem addTo_snoc {N L : List Int} {j i : Nat} {v : Int} (hi : L[j]? = some (i : Int)) (hv : (addTo N L j)[i]? = some v) : addTo N L (j + 1) = (addTo N L j).set i (v + 1) := by
  rw [addTo, hi]
  simp [List.getD, hv]
def inR (N : List Int) (B : Int) : Prop := ∀ v ∈ N, 0 ≤ v ∧ v ≤ B
theorem addTo_bd {N L : List Int} {B : Int} (h : inR N B) (hB : 0 ≤ B) : ∀ j, inR (addTo N L j) (B + (j : Int))
  | 0 => by simpa [addTo] using h
  | j + 1 => by
    have ih := addTo_bd (L := L) h hB j
    rw [addTo]
    split
    · rename_i i hi
      intro v hv
      rcases List.mem_or_eq_of_mem_set hv with h1 | h1
      · have := ih v h1; omega
      · subst h1
        have : 0 ≤ (addTo N L j).getD i.toNat 0 ∧ (addTo N L j).getD i.toNat 0 ≤ B + (j : Int) := by
          rcases hq : (addTo N L j)[i.toNat]? with _ | q
          · simp [List.getD, hq]; omega
          · have := ih q (List.mem_of_getElem? hq)
            simpa [List.getD, hq] using this
        omega
    · intro v hv
      have := ih v hv
      omega
def needTo (xs : List Srt) (ws : List ByteArray) : Nat → List Int
  | 0 => List.replicate xs.length 0
  | k + 1 => match ws[k]? with
    | some s => addTo (needTo xs ws k) (setL xs s) (setL xs s).length
    | none => needTo xs ws k
theorem needTo_snoc {xs : List Srt} {ws : List ByteArray} {k : Nat} {s : ByteArray} (h : ws[k]? = some s) : needTo xs ws (k + 1) = addTo (needTo xs ws k) (setL xs s) (setL xs s).length := by rw [needTo, h]
theorem needTo_len (xs : List Srt) (ws : List ByteArray) : ∀ k, (needTo xs ws k).length = xs.length
  | 0 => by simp [needTo]
  | k + 1 => by
    rw [needTo]
    split
    · rw [addTo_len]; exact needTo_len xs ws k
    · exact needTo_len xs ws k
theorem needTo_bd {xs : List Srt} {ws : List ByteArray} (h : ∀ s ∈ ws, wordB s = true) : ∀ k, inR (needTo xs ws k) (16 * (k : Int))
  | 0 => by
    intro v hv
    obtain rfl : v = 0 := List.eq_of_mem_replicate hv
    simp
  | k + 1 => by
    have ih := needTo_bd (xs := xs) h k
    rw [needTo]
    split
    · rename_i s hs
      have h1 := addTo_bd (L := setL xs s) ih (by omega) (setL xs s).length
      have h2 := (setL_in xs s).2
      have h3 := (word_len (h s (List.mem_of_getElem? hs))).2
      intro v hv
      have := h1 v hv
      omega
    · intro v hv
      have := ih v hv
      omega
def needL (xs : List Srt) (ws : List ByteArray) : List Int := needTo xs ws ws.length
def needB (xs : List Srt) (ws : List ByteArray) : Bool := ws.all (setB xs)
def needR (xs : List Srt) (ws : List ByteArray) : List Int := if needB xs ws = true then needL xs ws else []
theorem needR_no {xs : List Srt} {ws : List ByteArray} (h : needB xs ws = false) : needR xs ws = [] := by simp [needR, h]
theorem needR_yes {xs : List Srt} {ws : List ByteArray} (h : needB xs ws = true) : needR xs ws = needL xs ws := by simp [needR, h]
def copyB (xs : List Srt) (ws : List ByteArray) : Bool := fontB xs && (wordsB ws && needB xs ws)
def copyL (xs : List Srt) (ws : List ByteArray) : List Int := if copyB xs ws = true then needL xs ws else []
theorem wr_store {w : World} {base g n : Nat} {xs : List Int} (h : Wr w base (some ⟨g, 0, none⟩) n xs) {i : Nat} (hi : i < n) (v : Int) : Wr (w.setCell ⟨g, i, none⟩ (.int .i64 v)) base (some ⟨g, 0, none⟩) n (xs.set i v) := by
  refine ⟨by rw [List.length_set]; exact h.1, fun hn => ?_⟩
  obtain ⟨g', e, h1, hl, hc, hf⟩ := h.2 hn
  obtain rfl : g = g' := by simpa using e
  refine ⟨g, rfl, h1, by simpa [World.setCell] using hl, fun j x hx => ?_, fun j => by rw [World.frozen?_setCell]; exact hf j⟩
  have hl2 := h.1
  by_cases hij : j = i
  · subst hij
    rw [List.getElem?_set_self (by omega)] at hx
    cases hx
    exact World.cell?_setCell_same _ _ _ (hc j _ (List.getElem?_eq_getElem (by omega)))
  · rw [List.getElem?_set_ne (by omega)] at hx
    rw [World.cell?_setCell_other _ _ _ _ (by first | (simp; done) | (simp; omega))]
    exact hc j x hx
theorem wr_other {w : World} {base : Nat} {A : Option Addr} {n : Nat} {xs : List Int} (h : Wr w base A n xs) {g : Nat} (hg : g < base) (o : Nat) (v : Value) : Wr (w.setCell ⟨g, o, none⟩ v) base A n xs :=
  wr_row h (gr_set (gr_refl w (some g)) o v) (fun k hk => by cases hk; exact hg)
theorem own_made {w : World} {base g n : Nat} {z : Array Value} (h : w.ownsRow base 3 1 (.slice (some ⟨g, 0, none⟩) n n) n (madeCells z (n * 1)).toList) (hz : z = #[.int .i64 0]) : Wr w base (some ⟨g, 0, none⟩) n (List.replicate n 0) := by
  subst hz
  rw [toList_madeCells_one, Nat.mul_one] at h
  have h' : w.ownsRow base 3 1 (.slice (some ⟨g, 0, none⟩) n n) n ((List.replicate n 0).map (Value.int .i64)) := by simpa using h
  obtain ⟨A, c, e, hw⟩ := own_wr h'
  cases e
  exact hw
end Go.Proofs.Ytfehdpaoboiodaa
