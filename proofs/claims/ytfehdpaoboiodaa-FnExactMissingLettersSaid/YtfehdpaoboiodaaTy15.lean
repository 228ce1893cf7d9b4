/-
  Letters that no sort has: strings.Contains at one byte; plain functions.
-/
import Derived.Test.YtfehdpaoboiodaaTy14
import Derived.Lib.Strings
import Derived.Lib.Slices
import Derived.Lib.Walk
import Derived.Lib.Bytealg
import Derived.Laws.BytesArg
namespace Go.Proofs.Ytfehdpaoboiodaa
open Go.RowKit
set_option linter.unusedVariables false
attribute [local go_sem ↓] Go.wp_at_zero Go.wp_at_succ

theorem idx_any (l : List UInt8) (c : UInt8) : decide (0 ≤ Lib.indexByte l c) = l.any (· == c) := by
  induction l with
  | nil => rfl
  | cons b l ih =>
    have hg := Lib.indexByte_ge l c
    unfold Lib.indexByte
    rw [List.any_cons, ← ih]
    rcases hb : (b == c) with _ | _
    · rw [if_neg (by simp)]
      by_cases hi : Lib.indexByte l c = -1
      · simp [hi]
      · have h0 : 0 ≤ Lib.indexByte l c := by omega
        rw [if_neg (by simpa using hi), decide_eq_true h0, decide_eq_true (show 0 ≤ Lib.indexByte l c + 1 by omega)]
        rfl
    · simp
set_option maxHeartbeats 1000000 in
set_option maxRecDepth 100000 in
theorem indexByte_any (s : ByteArray) (c : Int) (w : World) : Calls Try.prog 79 #[.string s, .int .u8 c] w fun e w' => e = .returned (.int .i64 (Lib.indexByte s.data.toList c.toNat.toUInt8)) ∧ w' = w := by
  go_enter Try.func79, Try.ntmps79
  go_wp2
  rw [run_callFunc_extern Try.func83 (by kernel_rfl) (by kernel_rfl) (by kernel_rfl) (e := Extern.BytealgIndexByte.indexByte) (by kernel_rfl), Lib.run_indexByteString]
  simp only [Result.andThen]
  rw [Oper.upon_value]
  go_wp2
  go_ret
  exact ⟨rfl, rfl⟩
set_option maxHeartbeats 2000000 in
set_option maxRecDepth 100000 in
theorem index1_any (s : ByteArray) (c : UInt8) (w : World) : Calls Try.prog 77 #[.string s, .string ⟨#[c]⟩] w fun e w' => e = .returned (.int .i64 (Lib.indexByte s.data.toList c)) ∧ w' = w := by
  go_enter Try.func77, Try.ntmps77
  go_wp2_with (go_at_call 79; refine (indexByte_any _ _ _).mono ?_; rintro e w' ⟨rfl, rfl⟩)
  · have h : ([c] == s.toList) = true := by assumption
    go_ret
    refine ⟨?_, rfl⟩
    have e : s.data.toList = [c] := by rw [← Lib.toList_data]; exact (beq_iff_eq.1 h).symm
    rw [e]
    simp [Lib.indexByte]
  · go_ret
    exact ⟨rfl, rfl⟩
theorem index2_any (s : ByteArray) (c : UInt8) (w : World) : Calls Try.prog 73 #[.string s, .string ⟨#[c]⟩] w fun e w' => e = .returned (.int .i64 (Lib.indexByte s.data.toList c)) ∧ w' = w := by
  go_enter Try.func73, Try.ntmps73
  go_wp2_with (go_at_call 77; refine (index1_any _ _ _).mono ?_; rintro e w' ⟨rfl, rfl⟩)
  go_ret
  exact ⟨rfl, rfl⟩
def ltr (j : Nat) : ByteArray := ⟨#[UInt8.ofNat (97 + j)]⟩
def hasB (s : ByteArray) (j : Nat) : Bool := (bytes s).any (· == UInt8.ofNat (97 + j))
theorem contains_any (s : ByteArray) (j : Nat) (w : World) : Calls Try.prog 59 #[.string s, .string (ltr j)] w fun e w' => e = .returned (.bool (hasB s j)) ∧ w' = w := by
  have hE : decide (0 ≤ Lib.indexByte s.data.toList (UInt8.ofNat (97 + j))) = hasB s j := idx_any _ _
  unfold ltr
  generalize UInt8.ofNat (97 + j) = c at hE ⊢
  have HE := Lib.hid hE
  clear hE
  go_enter Try.func59, Try.ntmps59
  go_wp2_with (go_at_call 73; refine (index2_any _ _ _).mono ?_; rintro e w' ⟨rfl, rfl⟩)
  go_ret
  exact ⟨ret_bool (by first | exact HE.out | (simpa using HE.out)), rfl⟩
theorem enc_ltr {j : Nat} (h : j < 26) : Utf8.encode (97 + (j : Int)) = ltr j := by
  have : ∀ i : Fin 26, (Utf8.encode (97 + (i.1 : Int))).data.toList = (ltr i.1).data.toList := by decide +kernel
  have := this ⟨j, h⟩
  dsimp only at this
  exact ByteArray.ext (Array.toList_inj.1 this)
theorem conv_ltr (w : World) (j : Nat) : (convert 67 9 (.slice (some ⟨w.heap.size, 0, none⟩) 1 1)).run Try.prog (w.alloc (.cells #[.int .u8 (97 + (j : Int))] 5)) = .ok (.string (ltr j)) (w.alloc (.cells #[.int .u8 (97 + (j : Int))] 5)) := by
  have h := run_convert_bytes_arg (P := Try.prog) (w.alloc (.cells #[.int .u8 (97 + (j : Int))] 5)) 67 5 Try.underlying67 Try.underlying5 w.heap.size 0 1 1 [97 + (j : Int)] rfl (fun i hi => by
    obtain rfl : i = 0 := by omega
    simp) 9 Try.underlying9
  rw [h]
  congr 2
theorem ext_one {s : ByteArray} {i j : Nat} {b : UInt8} (h : (bytes s)[i]? = some b) : ((s.extract i (i + 1)).toList == (ltr j).toList) = (b == UInt8.ofNat (97 + j)) := by
  rw [Lib.toList_data, Lib.toList_data]
  have e : (s.extract i (i + 1)).data.toList = [b] := by
    have h1 := bytes_ext s i (i + 1)
    obtain ⟨h2, h3⟩ := List.getElem?_eq_some_iff.1 h
    rw [List.drop_eq_getElem_cons h2, h3] at h1
    simpa [bytes] using h1
  rw [e]
  simp [ltr]
theorem any_snoc {α : Type} {xs : List α} {p : α → Bool} {k : Nat} {x : α} (h : xs[k]? = some x) : (xs.take (k + 1)).any p = ((xs.take k).any p || p x) := by
  rw [take_snoc h]; simp
theorem any_end {α : Type} {xs : List α} {p : α → Bool} {k : Nat} (h : xs.length ≤ k) : (xs.take k).any p = xs.any p := by rw [List.take_of_length_le h]
def usedB (ws : List ByteArray) (j : Nat) : Bool := ws.any (hasB · j)
def mlTo (xs : List Srt) (ws : List ByteArray) : Nat → ByteArray
  | 0 => ⟨#[]⟩
  | j + 1 => if usedB ws j = true ∧ findI (codeB (ltr j)) xs < 0 then mlTo xs ws j ++ ltr j else mlTo xs ws j
theorem mlTo_yes {xs : List Srt} {ws : List ByteArray} {j : Nat} (h : usedB ws j = true) (h' : findI (codeB (ltr j)) xs < 0) : mlTo xs ws (j + 1) = mlTo xs ws j ++ ltr j := by rw [mlTo, if_pos ⟨h, h'⟩]
theorem mlTo_no {xs : List Srt} {ws : List ByteArray} {j : Nat} (h : usedB ws j = false ∨ ¬ findI (codeB (ltr j)) xs < 0) : mlTo xs ws (j + 1) = mlTo xs ws j := by
  rw [mlTo, if_neg]
  rcases h with h | h
  · simp [h]
  · simp [h]
theorem ltr_size (j : Nat) : (ltr j).size = 1 := rfl
theorem mlTo_size (xs : List Srt) (ws : List ByteArray) : ∀ j, (mlTo xs ws j).size ≤ j
  | 0 => Nat.le_refl _
  | j + 1 => by
    have ih := mlTo_size xs ws j
    rw [mlTo]
    split
    · rw [ByteArray.size_append, ltr_size]; omega
    · omega
def mlB (xs : List Srt) (ws : List ByteArray) : Bool := fontB xs && wordsB ws
def mlV (xs : List Srt) (ws : List ByteArray) : ByteArray := if mlB xs ws = true then mlTo xs ws 26 else ⟨#[]⟩
theorem mlV_no {xs : List Srt} {ws : List ByteArray} (h : mlB xs ws = false) : mlV xs ws = ⟨#[]⟩ := by simp [mlV, h]
theorem mlV_yes {xs : List Srt} {ws : List ByteArray} (h : mlB xs ws = true) : mlV xs ws = mlTo xs ws 26 := by simp [mlV, h]
theorem ml_parts (xs : List Srt) (ws : List ByteArray) : fontB xs = false ∧ mlB xs ws = false ∨ fontB xs = true ∧ wordsB ws = false ∧ mlB xs ws = false ∨ fontB xs = true ∧ wordsB ws = true ∧ mlB xs ws = true := by
  unfold mlB
  rcases fontB xs with _ | _ <;> rcases wordsB ws with _ | _ <;> simp
def PairS (x : ByteArray) (b : Bool) (w : World) (e : Ending) (w' : World) : Prop := e = .returned (.tuple #[.string x, .bool b]) ∧ Below w.heap.size w w'
theorem pair_s {x y : ByteArray} {b c : Bool} {w w' : World} (h : x = y) (h' : b = c) (hb : Below w.heap.size w w') : PairS y c w (.returned (.tuple #[.string x, .bool b])) w' := by subst h; subst h'; exact ⟨rfl, hb⟩
end Go.Proofs.Ytfehdpaoboiodaa
