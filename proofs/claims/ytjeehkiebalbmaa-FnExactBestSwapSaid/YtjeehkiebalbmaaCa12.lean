/-
  The best exchange: plain laws, contracts, the law's walk.
-/
import Derived.Test.YtjeehkiebalbmaaCa11
namespace Go.Proofs.Ytjeehkiebalbmaa
open Go.RowKit
set_option linter.unusedVariables false
attribute [local go_sem ↓] Go.wp_at_zero Go.wp_at_succ

theorem find_congr {α : Type} {p : α → Bool} {xs ys : List α} (h : xs.map p = ys.map p) : findI p xs = findI p ys := by
  have e : ∀ l : List α, l.findIdx? p = (l.map p).findIdx? id := fun l => by rw [List.findIdx?_map]; rfl
  unfold findI
  rw [e xs, e ys, h]
theorem swap_codes {xs : List Box} {a b : Nat} (hab : a < b) (hb : b < xs.length) (s : ByteArray) : findI (codeB s) (swapL xs a b) = findI (codeB s) xs := by
  have ha : xs[a]? = some (xs[a]'(by omega)) := List.getElem?_eq_getElem _
  have hbb : xs[b]? = some (xs[b]'(by omega)) := List.getElem?_eq_getElem _
  refine find_congr (List.ext_getElem? fun i => ?_)
  rw [List.getElem?_map, List.getElem?_map, swapL_get ha hbb (by omega)]
  by_cases h1 : i = b
  · subst h1
    rw [if_pos rfl, hbb]
    rfl
  · rw [if_neg h1]
    by_cases h2 : i = a
    · subst h2
      rw [if_pos rfl, ha]
      rfl
    · rw [if_neg h2]
theorem swap_box {x y : Box} (hx : boxB x = true) (hy : boxB y = true) : boxB (swapB x y) = true := by
  unfold boxB at hx hy ⊢
  simp only [Bool.and_eq_true] at hx hy ⊢
  exact ⟨hx.1, hy.2.1, hy.2.2.1, hx.2.2.2⟩
theorem swap_way {xs : List Box} {cs : List ByteArray} {a b : Nat} (hab : a < b) (hb : b < xs.length) (h : WayArg xs cs) : WayArg (swapL xs a b) cs := by
  obtain ⟨h1, h2, h3⟩ := h
  have ha : xs[a]? = some (xs[a]'(by omega)) := List.getElem?_eq_getElem _
  have hbb : xs[b]? = some (xs[b]'(by omega)) := List.getElem?_eq_getElem _
  refine ⟨fun z hz => ?_, fun s hs => ?_, h3⟩
  · obtain ⟨i, hi⟩ := List.mem_iff_getElem?.1 hz
    rw [swapL_get ha hbb (by omega)] at hi
    have hxa := h1 _ (List.mem_of_getElem? ha)
    have hxb := h1 _ (List.mem_of_getElem? hbb)
    split at hi
    · cases hi; exact swap_box hxb hxa
    · split at hi
      · cases hi; exact swap_box hxa hxb
      · exact h1 _ (List.mem_of_getElem? hi)
  · rw [swap_codes hab hb]
    exact h2 s hs
def bsD (xs : List Box) (cs : List ByteArray) (a b : Nat) : Int := (wayTo (swapL xs a b) cs cs.length).sum
def bsStep (xs : List Box) (cs : List ByteArray) (a b : Nat) (s : Option (Nat × Nat × Int)) : Option (Nat × Nat × Int) := match s with
  | none => some (a, b, bsD xs cs a b)
  | some (x, y, d) => if bsD xs cs a b < d then some (a, b, bsD xs cs a b) else some (x, y, d)
def bsTo (xs : List Box) (cs : List ByteArray) (m : Nat) (s : Option (Nat × Nat × Int)) : Nat → Option (Nat × Nat × Int)
  | 0 => s
  | q + 1 => if m < q then bsStep xs cs m q (bsTo xs cs m s q) else bsTo xs cs m s q
def bsOut (xs : List Box) (cs : List ByteArray) (n : Nat) : Nat → Option (Nat × Nat × Int)
  | 0 => none
  | m + 1 => bsTo xs cs m (bsOut xs cs n m) n
theorem bsTo_first (xs : List Box) (cs : List ByteArray) (m : Nat) (s : Option (Nat × Nat × Int)) : ∀ q, q ≤ m + 1 → bsTo xs cs m s q = s
  | 0, _ => rfl
  | q + 1, h => by
    rw [bsTo, if_neg (by omega)]
    exact bsTo_first xs cs m s q (by omega)
theorem bsTo_snoc (xs : List Box) (cs : List ByteArray) {m q : Nat} (s : Option (Nat × Nat × Int)) (h : m < q) : bsTo xs cs m s (q + 1) = bsStep xs cs m q (bsTo xs cs m s q) := by rw [bsTo, if_pos h]
theorem bsStep_some (xs : List Box) (cs : List ByteArray) (a b : Nat) (s : Option (Nat × Nat × Int)) : bsStep xs cs a b s ≠ none := by
  unfold bsStep
  split
  · simp
  · split <;> simp
theorem bsTo_some {xs : List Box} {cs : List ByteArray} {m : Nat} {s : Option (Nat × Nat × Int)} (h : s ≠ none) : ∀ q, bsTo xs cs m s q ≠ none
  | 0 => h
  | q + 1 => by
    rw [bsTo]
    split
    · exact bsStep_some _ _ _ _ _
    · exact bsTo_some h q
theorem bsOut_some {xs : List Box} {cs : List ByteArray} {n : Nat} (hn : 2 ≤ n) : ∀ m, 0 < m → bsOut xs cs n m ≠ none
  | 0, h => by omega
  | 1, _ => by
    show bsTo xs cs 0 none n ≠ none
    obtain ⟨q, rfl⟩ : ∃ q, n = q + 1 := ⟨n - 1, by omega⟩
    rw [bsTo_snoc _ _ _ (by omega)]
    exact bsStep_some _ _ _ _ _
  | m + 2, _ => bsTo_some (bsOut_some hn (m + 1) (by omega)) n
def sxX (s : Option (Nat × Nat × Int)) : Int := match s with | none => -1 | some (a, _, _) => (a : Int)
def sxY (s : Option (Nat × Nat × Int)) : Int := match s with | none => -1 | some (_, b, _) => (b : Int)
def sxD (s : Option (Nat × Nat × Int)) : Int := match s with | none => 0 | some (_, _, d) => d
def ixX (s : Option (Nat × Nat × Int)) : Int := match s with | none => 0 | some (a, _, _) => (a : Int)
def ixY (s : Option (Nat × Nat × Int)) : Int := match s with | none => 0 | some (_, b, _) => (b : Int)
def ixD (s : Option (Nat × Nat × Int)) : Int := match s with | none => -1 | some (_, _, d) => d
def bsOk (s : Option (Nat × Nat × Int)) : Prop := ∀ a b d, s = some (a, b, d) → 0 ≤ d ∧ d ≤ 1080
theorem bsD_bd {xs : List Box} {cs : List ByteArray} (hw : WayArg xs cs) {a b : Nat} (hab : a < b) (hb : b < xs.length) : 0 ≤ bsD xs cs a b ∧ bsD xs cs a b ≤ 1080 := by
  have h := swap_way hab hb hw
  obtain ⟨_, _, h0, h1⟩ := wayTo_ok (cs := cs) h.1 cs.length
  have := h.2.2
  unfold bsD
  omega
theorem bsStep_ok {xs : List Box} {cs : List ByteArray} (hw : WayArg xs cs) {a b : Nat} (hab : a < b) (hb : b < xs.length) {s : Option (Nat × Nat × Int)} (h : bsOk s) : bsOk (bsStep xs cs a b s) := by
  have hd := bsD_bd hw hab hb
  have key : bsOk (some (a, b, bsD xs cs a b)) := by
    intro x y d e
    simp only [Option.some.injEq, Prod.mk.injEq] at e
    obtain ⟨rfl, rfl, rfl⟩ := e
    exact hd
  unfold bsStep
  split
  · exact key
  · split
    · exact key
    · exact h
theorem bsTo_ok {xs : List Box} {cs : List ByteArray} (hw : WayArg xs cs) {m : Nat} {s : Option (Nat × Nat × Int)} (h : bsOk s) : ∀ q, q ≤ xs.length → bsOk (bsTo xs cs m s q)
  | 0, _ => h
  | q + 1, hq => by
    rw [bsTo]
    split
    · exact bsStep_ok hw (by assumption) (by omega) (bsTo_ok hw h q (by omega))
    · exact bsTo_ok hw h q (by omega)
theorem bsOut_ok {xs : List Box} {cs : List ByteArray} (hw : WayArg xs cs) : ∀ m, bsOk (bsOut xs cs xs.length m)
  | 0 => by intro a b d e; simp [bsOut] at e
  | m + 1 => bsTo_ok hw (bsOut_ok hw m) _ (Nat.le_refl _)
def bsB (xs : List Box) (cs : List ByteArray) : Bool := askB xs cs && decide (2 ≤ xs.length)
/-- returns three numbers and a bool -/
def QuadB (p q r : Int) (b : Bool) (w : World) (e : Ending) (w' : World) : Prop := e = .returned (.tuple #[.int .i64 p, .int .i64 q, .int .i64 r, .bool b]) ∧ Below w.heap.size w w'
theorem quad_b {p q r x y z : Int} {b c : Bool} {w w' : World} (h1 : p = x) (h2 : q = y) (h3 : r = z) (h : b = c) (hb : Below w.heap.size w w') : QuadB x y z c w (.returned (.tuple #[.int .i64 p, .int .i64 q, .int .i64 r, .bool b])) w' := by
  subst h1 h2 h3 h; exact ⟨rfl, hb⟩
theorem bs_parts {xs : List Box} {cs : List ByteArray} (h : bsB xs cs = false) : askB xs cs = false ∨ askB xs cs = true ∧ xs.length < 2 := by
  unfold bsB at h
  rcases h1 : askB xs cs with _ | _
  · exact .inl rfl
  · rw [h1, Bool.true_and] at h
    have := of_decide_eq_false h
    exact .inr ⟨rfl, by omega⟩
set_option maxHeartbeats 1000000 in
theorem specBS_no (A A' : Option Addr) (n n' c c' : Nat) (xs : List Box) (cs : List ByteArray) (w : World) (hh : Hand w A A' n n' c xs cs) (h : bsB xs cs = false) :
    Calls Try.prog 30 #[.slice A n c, .slice A' n' c'] w (QuadB 0 0 0 false w) := by
  obtain ⟨h1, h2, h3, h4, h5, h6⟩ := hh
  have HA := Lib.hid (caAsked_any A n c xs A' n' c' cs w h1 h2 h3 h4 h5 h6)
  have hl := h1.1
  clear h5
  rcases bs_parts h with g | ⟨g, g2⟩
  all_goals
    rw [g] at HA
    clear h g
    go_enter Try.func30, Try.ntmps30
    go_wp2_with (go_at_call 45; refine HA.out.mono ?_; rintro e w1 ⟨rfl, hb⟩)
    refine bodyPost_ret (v := .tuple #[.int .i64 0, .int .i64 0, .int .i64 0, .bool false]) (by simp [results, Try.results30, go_sem]) rfl (quad_b rfl rfl rfl rfl (by repeat (first | (with_reducible exact Below.refl _ _) | (with_reducible assumption) | (with_reducible refine bl_alloc ?_ _) | (with_reducible refine bl_drew ?_) | (with_reducible refine bl_drewN ?_ _) | ((with_reducible refine bl_set ?_ ?hb _); (case hb => first | (simp; done) | omega | (simp; omega))) | (with_reducible refine bl_trans ?_ (by assumption)))))
set_option maxHeartbeats 1000000 in
theorem implBS_no (A A' : Option Addr) (n n' c c' : Nat) (xs : List Box) (cs : List ByteArray) (w : World) (hh : Hand w A A' n n' c xs cs) (h : bsB xs cs = false) :
    Calls Try.prog 31 #[.slice A n c, .slice A' n' c'] w (QuadB 0 0 0 false w) := by
  obtain ⟨h1, h2, h3, h4, h5, h6⟩ := hh
  have HA := Lib.hid (areCodes_any A n c xs A' n' c' cs w h1 h2 h3 h4 h5 h6)
  have hl := h1.1
  clear h5
  rcases bs_parts h with g | ⟨g, g2⟩
  all_goals
    rw [g] at HA
    clear h g
    go_enter Try.func31, Try.ntmps31
    go_wp2_with (go_at_call 47; refine HA.out.mono ?_; rintro e w1 ⟨rfl, hb⟩)
    refine bodyPost_ret (v := .tuple #[.int .i64 0, .int .i64 0, .int .i64 0, .bool false]) (by simp [results, Try.results31, go_sem]) rfl (quad_b rfl rfl rfl rfl (by repeat (first | (with_reducible exact Below.refl _ _) | (with_reducible assumption) | (with_reducible refine bl_alloc ?_ _) | (with_reducible refine bl_drew ?_) | (with_reducible refine bl_drewN ?_ _) | ((with_reducible refine bl_set ?_ ?hb _); (case hb => first | (simp; done) | omega | (simp; omega))) | (with_reducible refine bl_trans ?_ (by assumption)))))
end Go.Proofs.Ytjeehkiebalbmaa
