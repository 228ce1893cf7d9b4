/-
  How a word is set: the implementation's way equals the plain law; strings.HasPrefix; the implementation's contract.
-/
import Derived.Test.YtfehdpaoboiodaaTy5
namespace Go.Proofs.Ytfehdpaoboiodaa
open Go.RowKit
set_option linter.unusedVariables false
attribute [local go_sem ↓] Go.wp_at_zero Go.wp_at_succ

def preB (w c : ByteArray) : Bool := decide (c.size ≤ w.size) && (bytes c == (bytes w).take c.size)
set_option maxHeartbeats 1000000 in
theorem hasPrefix0_any (s c : ByteArray) (w : World) (hs : s.size ≤ 1048576) (hc : c.size ≤ maxLen) : Calls Try.prog 78 #[.string s, .string c] w fun e w' => e = .returned (.bool (preB s c)) ∧ w = w' := by
  unfold maxLen at hc
  by_cases h : c.size ≤ s.size
  · have HE := Lib.hid (show preB s c = ((s.extract 0 c.size).toList == c.toList) by
      unfold preB
      rw [decide_eq_true h, Bool.true_and, ByteArray.toList_eq, ByteArray.toList_eq]
      show (bytes c == _) = (bytes (s.extract 0 c.size) == bytes c)
      rw [bytes_ext, List.drop_zero, Nat.sub_zero]
      exact Bool.eq_iff_iff.2 ⟨fun e => by simp at e ⊢; exact e.symm, fun e => by simp at e ⊢; exact e.symm⟩)
    go_enter Try.func78, Try.ntmps78
    go_wp2
    go_ret
    exact ⟨ret_bool HE.out.symm, rfl⟩
  · have HE := Lib.hid (show preB s c = false by unfold preB; rw [decide_eq_false h, Bool.false_and])
    go_enter Try.func78, Try.ntmps78
    go_wp2
    go_ret
    exact ⟨ret_bool HE.out.symm, rfl⟩
theorem hasPrefix_any (s c : ByteArray) (w : World) (hs : s.size ≤ 1048576) (hc : c.size ≤ maxLen) : Calls Try.prog 76 #[.string s, .string c] w fun e w' => e = .returned (.bool (preB s c)) ∧ w = w' := by
  have HH := Lib.hid hc
  clear hc
  go_enter Try.func76, Try.ntmps76
  go_wp2_with (go_at_call 78; refine (hasPrefix0_any _ _ _ hs HH.out).mono ?_; rintro e w' ⟨rfl, rfl⟩)
  go_ret
  exact ⟨rfl, rfl⟩
/-! ### the implementation's choice -/
def szAt (xs : List Srt) (b : Int) : Nat := match xs[b.toNat]? with | some y => y.code.size | none => 0
def impTo (xs : List Srt) (r : ByteArray) : Nat → Int
  | 0 => -1
  | k + 1 => match xs[k]? with
    | some x => if (preB r x.code && (decide (impTo xs r k < 0) || decide (szAt xs (impTo xs r k) < x.code.size))) = true then (k : Int) else impTo xs r k
    | none => impTo xs r k
theorem impTo_yes {xs : List Srt} {r : ByteArray} {k : Nat} {x : Srt} (hx : xs[k]? = some x) (h : preB r x.code = true) (h2 : impTo xs r k < 0 ∨ szAt xs (impTo xs r k) < x.code.size) : impTo xs r (k + 1) = (k : Int) := by
  rw [impTo, hx]
  simp [h, h2]
theorem impTo_no {xs : List Srt} {r : ByteArray} {k : Nat} {x : Srt} (hx : xs[k]? = some x) (h : preB r x.code = false ∨ ¬ (impTo xs r k < 0 ∨ szAt xs (impTo xs r k) < x.code.size)) : impTo xs r (k + 1) = impTo xs r k := by
  rw [impTo, hx]
  rcases h with h | h
  · simp [h]
  · have : (decide (impTo xs r k < 0) || decide (szAt xs (impTo xs r k) < x.code.size)) = false := by
      rw [Bool.or_eq_false_iff]
      exact ⟨decide_eq_false (fun e => h (.inl e)), decide_eq_false (fun e => h (.inr e))⟩
    simp [this]
theorem impTo_cases (xs : List Srt) (r : ByteArray) : ∀ k, k ≤ xs.length → (impTo xs r k = -1 ∧ ∀ j y, j < k → xs[j]? = some y → preB r y.code = false) ∨
    ∃ (i : Nat) (x : Srt), impTo xs r k = (i : Int) ∧ i < k ∧ xs[i]? = some x ∧ preB r x.code = true ∧ ∀ j y, j < k → xs[j]? = some y → preB r y.code = true → y.code.size < x.code.size ∨ y.code.size = x.code.size ∧ i ≤ j
  | 0, _ => .inl ⟨rfl, fun j y h => by omega⟩
  | k + 1, hk => by
    have hx : xs[k]? = some (xs[k]'(by omega)) := List.getElem?_eq_getElem _
    obtain ⟨z, hz⟩ : ∃ z, xs[k]? = some z := ⟨_, hx⟩
    have ih := impTo_cases xs r k (by omega)
    rcases hp : preB r z.code with _ | _
    · rw [impTo_no hz (.inl hp)]
      rcases ih with ⟨h1, h2⟩ | ⟨i, x, h1, h2, h3, h4, h5⟩
      · refine .inl ⟨h1, fun j y hj hy => ?_⟩
        by_cases hjk : j = k
        · subst hjk; rw [hz] at hy; cases hy; exact hp
        · exact h2 j y (by omega) hy
      · refine .inr ⟨i, x, h1, by omega, h3, h4, fun j y hj hy hpy => ?_⟩
        by_cases hjk : j = k
        · subst hjk; rw [hz] at hy; cases hy; rw [hp] at hpy; cases hpy
        · exact h5 j y (by omega) hy hpy
    · rcases ih with ⟨h1, h2⟩ | ⟨i, x, h1, h2, h3, h4, h5⟩
      · rw [impTo_yes hz hp (.inl (by omega))]
        refine .inr ⟨k, z, rfl, by omega, hz, hp, fun j y hj hy hpy => ?_⟩
        by_cases hjk : j = k
        · subst hjk; rw [hz] at hy; cases hy; exact .inr ⟨rfl, Nat.le_refl _⟩
        · rw [h2 j y (by omega) hy] at hpy; cases hpy
      · have hsz : szAt xs (impTo xs r k) = x.code.size := by unfold szAt; rw [h1]; simp [h3]
        by_cases hl : x.code.size < z.code.size
        · rw [impTo_yes hz hp (.inr (by rw [hsz]; exact hl))]
          refine .inr ⟨k, z, rfl, by omega, hz, hp, fun j y hj hy hpy => ?_⟩
          by_cases hjk : j = k
          · subst hjk; rw [hz] at hy; cases hy; exact .inr ⟨rfl, Nat.le_refl _⟩
          · have := h5 j y (by omega) hy hpy
            exact .inl (by omega)
        · rw [impTo_no hz (.inr (by rw [hsz]; omega))]
          refine .inr ⟨i, x, h1, by omega, h3, h4, fun j y hj hy hpy => ?_⟩
          by_cases hjk : j = k
          · subst hjk; rw [hz] at hy; cases hy; omega
          · exact h5 j y (by omega) hy hpy
theorem find_le {α : Type} {p : α → Bool} {xs : List α} {k i : Nat} {x : α} (h : findI p xs = (k : Int)) (hx : xs[i]? = some x) (hp : p x = true) : k ≤ i := by
  unfold findI at h
  rcases hf : xs.findIdx? p with _ | m
  · rw [hf] at h
    exact absurd h (by simp only []; omega)
  · rw [hf] at h
    obtain ⟨hm, _, hlt⟩ := List.findIdx?_eq_some_iff_getElem.1 hf
    have hmk : m = k := by have h' : (m : Int) = (k : Int) := h; omega
    subst hmk
    refine Nat.le_of_not_lt (fun hi => ?_)
    have := hlt i hi
    rw [(List.getElem?_eq_some_iff.1 hx).2, hp] at this
    simp at this
theorem find_ge {α : Type} {p : α → Bool} {xs : List α} {i : Nat} {x : α} (hx : xs[i]? = some x) (hp : p x = true) : 0 ≤ findI p xs := by
  rcases hf : xs.findIdx? p with _ | m
  · rw [List.findIdx?_eq_none_iff] at hf
    have := hf x (List.mem_of_getElem? hx)
    rw [hp] at this
    simp at this
  · unfold findI
    rw [hf]
    simp
theorem pre_fit {r : ByteArray} {x : Srt} (h : preB r x.code = true) : x.code.size ≤ r.size ∧ fit ((bytes r).take x.code.size) x = true := by
  unfold preB at h
  rw [Bool.and_eq_true] at h
  exact ⟨of_decide_eq_true h.1, h.2⟩
theorem imp_best {xs : List Srt} (hx : ∀ x ∈ xs, 1 ≤ x.code.size ∧ x.code.size ≤ 3) (r : ByteArray) : impTo xs r xs.length = best xs (bytes r) := by
  unfold best
  rw [bytes_len]
  rcases impTo_cases xs r xs.length (Nat.le_refl _) with ⟨h1, h2⟩ | ⟨i, x, h1, h2, h3, h4, h5⟩ <;> rcases bestN_cases xs (bytes r) (min 3 r.size) with ⟨g1, g2⟩ | ⟨n, k, y, g1, g2, g3, g4, g5, g6, g7, g8⟩
  · rw [h1, g1]
  · exfalso
    have hys : y.code.size = n := by rw [← bytes_len, g6, List.length_take, bytes_len]; omega
    have := h2 k y g5 g4
    unfold preB at this
    rw [decide_eq_true (by omega), Bool.true_and, hys, g6] at this
    simp at this
  · exfalso
    obtain ⟨p1, p2⟩ := pre_fit h4
    have hxs := hx x (List.mem_of_getElem? h3)
    have := g2 x.code.size hxs.1 (by omega)
    have := find_ge h3 p2
    omega
  · have hys : y.code.size = n := by rw [← bytes_len, g6, List.length_take, bytes_len]; omega
    obtain ⟨p1, p2⟩ := pre_fit h4
    have hxs := hx x (List.mem_of_getElem? h3)
    have hpy : preB r y.code = true := by
      unfold preB
      rw [decide_eq_true (by omega), Bool.true_and, hys, g6]
      simp
    have h6 := h5 k y g5 g4 hpy
    have hmax : x.code.size ≤ n := by
      refine Nat.le_of_not_lt (fun hlt => ?_)
      have := g8 x.code.size hlt (by omega)
      have := find_ge h3 p2
      omega
    have hse : x.code.size = n := by omega
    rw [hse] at p2
    have := find_le g7 h3 p2
    rw [h1, g3]
    omega
def strLen (v : Value) : Nat := match v with | .string r => r.size | _ => 0
theorem set_len (xs : List Srt) (x : Srt) (h : sortB x = true) : 1 ≤ x.code.size ∧ x.code.size ≤ 3 := by
  unfold sortB lettersB at h
  simp only [Bool.and_eq_true] at h
  have := inB_iff.1 h.1.2
  omega
set_option maxHeartbeats 2000000 in
theorem sortsOf_any (A : Option Addr) (n c B : Nat) (xs : List Srt) (s : ByteArray) (w : World) (hr : Rd cSrt 2 w B A n xs) (hB : B ≤ w.heap.size) (hn : n ≤ 1048576) (hs : s.size ≤ 1048576) (hx : ∀ x ∈ xs, sortB x = true) :
    Calls Try.prog 66 #[.slice A n c, .string s] w (RetS (setL xs s) (setB xs s) w) := by
  have hl := hr.1
  obtain ⟨i0, hi0, hi1, hi2, hi3⟩ := info_parts infoI
  have HBEST := Lib.hid (fun r => imp_best (xs := xs) (fun x h => set_len xs x (hx x h)) r)
  have HSZ := Lib.hid (fun x (h : x ∈ xs) => set_len xs x (hx x h))
  clear hx
  go_enter Try.func66, Try.ntmps66
  go_wp2
  go_loopw [1, 6] (fun v u wr => ∃ (r : ByteArray) (t : Nat) (L : List Int), v = .string r ∧ L.length + r.size ≤ s.size ∧ r.size < t ∧ OwnG 3 1 w.heap.size w w.heap.size wr u L.length (L.map (Value.int .i64)) ∧ Hid (setGo xs t (bytes r) L = setV xs (bytes s))) (fun v _ _ => strLen v)
  case atStart => exact ⟨s, s.size + 1, [], rfl, by simp, by omega, ⟨own_empty (heap_alloc_new w _) (Nat.le_refl _), fun k hk => .inl (by simpa [Value.ownBlock] using hk.symm), World.grownBy_alloc _ _ _⟩, by unfold Hid setV; rw [bytes_len]⟩
  case round =>
    obtain ⟨r, t, L, rfl, hL, ht, hown, HG⟩ := hrel
    by_cases hr0 : 0 < r.size
    · obtain ⟨wo, rfl⟩ : ∃ wo : World, wo = wr := ⟨_, rfl⟩
      have HO := Lib.hid hown
      have hbw : Below w.heap.size w wo := hown.to_below (Nat.le_refl _) (Nat.le_refl _)
      have HBW := Lib.hid hbw
      have hBs : B ≤ wo.heap.size := by have := hbw.size; omega
      have hrr := hr.below (hbw.mono hB)
      have HRR := Lib.hid hrr
      have hr1 : r.size ≤ 1048576 := by omega
      clear hown hbw hrr
      go_wp2
      go_loopw [7, 16] (fun b i wi => ∃ k : Nat, k ≤ n ∧ i = .int .i64 k ∧ b = .int .i64 (impTo xs r k) ∧ Below wo.heap.size wo wi) (fun _ i _ => n - (intOf i).toNat)
      case atStart => exact ⟨0, Nat.zero_le _, rfl, rfl, Below.refl _ _⟩
      case round =>
        obtain ⟨k, hk, rfl, rfl, hbi⟩ := hrel
        by_cases hlt : k < n
        · have hri := HRR.out.below (hbi.mono hBs)
          obtain ⟨bb, off, x, rfl, hbB, hxk, c0, c1⟩ := hri.atSrt hlt
          have hxz := HSZ.out x (List.mem_of_getElem? hxk)
          have hcs : x.code.size ≤ maxLen := by unfold maxLen; omega
          have HCS := Lib.hid hcs
          have hcases := impTo_cases xs r k (by omega)
          have HX := Lib.hid hxk
          have HBI := Lib.hid hbi
          have hbw : bb < wr.heap.size := by have := hbi.size; omega
          have n1 : bb ≠ wr.heap.size := by omega
          have n2 : wr.heap.size ≠ bb := by omega
          have HRI := Lib.hid hri
          clear hcs hxk hbi hri
          rcases hp : preB r x.code with _ | _
          · have HP := Lib.hid hp
            have HN := Lib.hid (impTo_no HX.out (.inl hp))
            clear hp hcases
            go_wp2_with fail
            refine wp_region_noPanic ?_
            refine wp_region_held_drew (S := (fun w' => w'.cell? ⟨wr.heap.size, 0, none⟩ = some (.string x.code))) (by kernel_rfl) (by (try dsimp only); go_keep) (fun hHeld => ?_)
            refine take_of (some 21) (i := 0) (v := ?vq1_0) rfl rfl (by kernel_rfl) (by kernel_rfl) (by kernel_rfl) (fun _ _ _ h => h) (Or.inl ⟨by rfl, ?hyq1_0⟩) (by assumption) ?restq1_0
            case hyq1_0 => (intro w hSw; (try dsimp only at hSw); go_simp; try with_reducible rfl)
            try simp only [Act.put, List.setIfInBounds_toArray, List.set_cons_zero, List.set_cons_succ]
            refine take_of (some 22) (i := 1) (v := ?vq1_1) rfl rfl (by kernel_rfl) (by kernel_rfl) (by kernel_rfl) (fun _ _ _ h => h) (Or.inl ⟨by rfl, ?hyq1_1⟩) (by assumption) ?restq1_1
            case hyq1_1 => (intro w hSw; (try dsimp only at hSw); go_simp; try with_reducible rfl)
            try simp only [Act.put, List.setIfInBounds_toArray, List.set_cons_zero, List.set_cons_succ]
            refine take_of (some 23) (i := 2) (v := ?vq1_2) rfl rfl (by kernel_rfl) (by kernel_rfl) (by kernel_rfl) (fun _ _ _ h => h) (Or.inl ⟨by rfl, ?hyq1_2⟩) (by assumption) ?restq1_2
            case hyq1_2 => (intro w hSw; (try dsimp only at hSw); go_simp; try with_reducible rfl)
            try simp only [Act.put, List.setIfInBounds_toArray, List.set_cons_zero, List.set_cons_succ]
            refine wpAnyH_ready (rs := [3]) (by kernel_rfl) (by simp) ?_
            refine AllReadyH.cons rfl (fun K hK => ?_) AllReadyH.nil
            go_simp
            (go_at_call 76; refine (hasPrefix_any _ _ _ hr1 HCS.out).mono ?_; rw [HP.out]; rintro e w' ⟨rfl, rfl⟩)
            go_wp2_with fail
            refine hK.out _ _ (by (try dsimp only); go_keep) (fun hHeld => ?_)
            clear hK K
            try simp only [Act.put, List.setIfInBounds_toArray, List.set_cons_zero, List.set_cons_succ]
            refine take_of (some 25) (i := 4) (v := ?vq1_4) rfl rfl (by kernel_rfl) (by kernel_rfl) (by kernel_rfl) (fun _ _ _ h => h) (Or.inl ⟨by rfl, ?hyq1_4⟩) (by assumption) ?restq1_4
            case hyq1_4 => (intro w hSw; (try dsimp only at hSw); go_simp; try with_reducible rfl)
            try simp only [Act.put, List.setIfInBounds_toArray, List.set_cons_zero, List.set_cons_succ]
            refine take_of (some 26) (i := 5) (v := undef) rfl rfl (by kernel_rfl) (by kernel_rfl) (by kernel_rfl) (fun _ _ _ h => h) (Or.inr ⟨by rfl, rfl⟩) (by assumption) ?_
            try simp only [Act.put, List.setIfInBounds_toArray, List.set_cons_zero, List.set_cons_succ]
            refine take_of (some 27) (i := 6) (v := undef) rfl rfl (by kernel_rfl) (by kernel_rfl) (by kernel_rfl) (fun _ _ _ h => h) (Or.inr ⟨by rfl, rfl⟩) (by assumption) ?_
            try simp only [Act.put, List.setIfInBounds_toArray, List.set_cons_zero, List.set_cons_succ]
            refine take_of (some 28) (i := 7) (v := undef) rfl rfl (by kernel_rfl) (by kernel_rfl) (by kernel_rfl) (fun _ _ _ h => h) (Or.inr ⟨by rfl, rfl⟩) (by assumption) ?_
            try simp only [Act.put, List.setIfInBounds_toArray, List.set_cons_zero, List.set_cons_succ]
            refine take_of (some 29) (i := 8) (v := undef) rfl rfl (by kernel_rfl) (by kernel_rfl) (by kernel_rfl) (fun _ _ _ h => h) (Or.inr ⟨by rfl, rfl⟩) (by assumption) ?_
            try simp only [Act.put, List.setIfInBounds_toArray, List.set_cons_zero, List.set_cons_succ]
            refine take_of (some 30) (i := 9) (v := undef) rfl rfl (by kernel_rfl) (by kernel_rfl) (by kernel_rfl) (fun _ _ _ h => h) (Or.inr ⟨by rfl, rfl⟩) (by assumption) ?_
            try simp only [Act.put, List.setIfInBounds_toArray, List.set_cons_zero, List.set_cons_succ]
            refine take_of (some 31) (i := 10) (v := undef) rfl rfl (by kernel_rfl) (by kernel_rfl) (by kernel_rfl) (fun _ _ _ h => h) (Or.inr ⟨by rfl, rfl⟩) (by assumption) ?_
            try simp only [Act.put, List.setIfInBounds_toArray, List.set_cons_zero, List.set_cons_succ]
            refine take_of (some 32) (i := 11) (v := undef) rfl rfl (by kernel_rfl) (by kernel_rfl) (by kernel_rfl) (fun _ _ _ h => h) (Or.inr ⟨by rfl, rfl⟩) (by assumption) ?_
            try simp only [Act.put, List.setIfInBounds_toArray, List.set_cons_zero, List.set_cons_succ]
            refine take_of (some 33) (i := 12) (v := undef) rfl rfl (by kernel_rfl) (by kernel_rfl) (by kernel_rfl) (fun _ _ _ h => h) (Or.inr ⟨by rfl, rfl⟩) (by assumption) ?_
            try simp only [Act.put, List.setIfInBounds_toArray, List.set_cons_zero, List.set_cons_succ]
            refine take_of (some 34) (i := 13) (v := undef) rfl rfl (by kernel_rfl) (by kernel_rfl) (by kernel_rfl) (fun _ _ _ h => h) (Or.inr ⟨by rfl, rfl⟩) (by assumption) ?_
            try simp only [Act.put, List.setIfInBounds_toArray, List.set_cons_zero, List.set_cons_succ]
            refine take_of (some 35) (i := 14) (v := undef) rfl rfl (by kernel_rfl) (by kernel_rfl) (by kernel_rfl) (fun _ _ _ h => h) (Or.inr ⟨by rfl, rfl⟩) (by assumption) ?_
            try simp only [Act.put, List.setIfInBounds_toArray, List.set_cons_zero, List.set_cons_succ]
            refine take_of (some 36) (i := 15) (v := undef) rfl rfl (by kernel_rfl) (by kernel_rfl) (by kernel_rfl) (fun _ _ _ h => h) (Or.inr ⟨by rfl, rfl⟩) (by assumption) ?_
            try simp only [Act.put, List.setIfInBounds_toArray, List.set_cons_zero, List.set_cons_succ]
            refine take_of (some 37) (i := 16) (v := undef) rfl rfl (by kernel_rfl) (by kernel_rfl) (by kernel_rfl) (fun _ _ _ h => h) (Or.inr ⟨by rfl, rfl⟩) (by assumption) ?_
            try simp only [Act.put, List.setIfInBounds_toArray, List.set_cons_zero, List.set_cons_succ]
            refine take_of (some 38) (i := 17) (v := undef) rfl rfl (by kernel_rfl) (by kernel_rfl) (by kernel_rfl) (fun _ _ _ h => h) (Or.inr ⟨by rfl, rfl⟩) (by assumption) ?_
            try simp only [Act.put, List.setIfInBounds_toArray, List.set_cons_zero, List.set_cons_succ]
            refine take_of (some 39) (i := 18) (v := undef) rfl rfl (by kernel_rfl) (by kernel_rfl) (by kernel_rfl) (fun _ _ _ h => h) (Or.inr ⟨by rfl, rfl⟩) (by assumption) ?_
            try simp only [Act.put, List.setIfInBounds_toArray, List.set_cons_zero, List.set_cons_succ]
            refine take_of (some 40) (i := 19) (v := ?vq1_19) rfl rfl (by kernel_rfl) (by kernel_rfl) (by kernel_rfl) (fun _ _ _ h => h) (Or.inl ⟨by rfl, ?hyq1_19⟩) (by assumption) ?restq1_19
            case hyq1_19 => (intro w hSw; (try dsimp only at hSw); go_simp; try with_reducible rfl)
            try simp only [Act.put, List.setIfInBounds_toArray, List.set_cons_zero, List.set_cons_succ]
            refine wpAnyH_done (by kernel_rfl) ?_ _
            refine NoPanic.normal ?_
            go_wp2
            go_roundw
            case rel => exact ⟨k + 1, by omega, by go_num, by rw [HN.out], bl_trans HBI.out (by repeat (first | (with_reducible exact Below.refl _ _) | (with_reducible assumption) | (with_reducible refine bl_alloc ?_ _) | (with_reducible refine bl_drew ?_) | (with_reducible refine bl_drewN ?_ _) | ((with_reducible refine bl_set ?_ ?hb _); (case hb => first | (simp; done) | omega | (simp; omega))) | (with_reducible refine bl_trans ?_ (by assumption))))⟩
            case measure => simp [intOf]; omega
          · have HP := Lib.hid hp
            rcases hcases with ⟨q1, _⟩ | ⟨i, y, q1, q2, q3, _, _⟩
            · have HN := Lib.hid (impTo_yes HX.out hp (.inl (by omega)))
              rw [q1]
              have hd : decide ((-1 : Int) < 0) = true := by decide
              clear hp q1
              go_wp2_with fail
              refine wp_region_noPanic ?_
              refine wp_region_held_drew (S := (fun w' => w'.cell? ⟨wr.heap.size, 0, none⟩ = some (.string x.code))) (by kernel_rfl) (by (try dsimp only); go_keep) (fun hHeld => ?_)
              refine take_of (some 21) (i := 0) (v := ?vq2_0) rfl rfl (by kernel_rfl) (by kernel_rfl) (by kernel_rfl) (fun _ _ _ h => h) (Or.inl ⟨by rfl, ?hyq2_0⟩) (by assumption) ?restq2_0
              case hyq2_0 => (intro w hSw; (try dsimp only at hSw); go_simp; try with_reducible rfl)
              try simp only [Act.put, List.setIfInBounds_toArray, List.set_cons_zero, List.set_cons_succ]
              refine take_of (some 22) (i := 1) (v := ?vq2_1) rfl rfl (by kernel_rfl) (by kernel_rfl) (by kernel_rfl) (fun _ _ _ h => h) (Or.inl ⟨by rfl, ?hyq2_1⟩) (by assumption) ?restq2_1
              case hyq2_1 => (intro w hSw; (try dsimp only at hSw); go_simp; try with_reducible rfl)
              try simp only [Act.put, List.setIfInBounds_toArray, List.set_cons_zero, List.set_cons_succ]
              refine take_of (some 23) (i := 2) (v := ?vq2_2) rfl rfl (by kernel_rfl) (by kernel_rfl) (by kernel_rfl) (fun _ _ _ h => h) (Or.inl ⟨by rfl, ?hyq2_2⟩) (by assumption) ?restq2_2
              case hyq2_2 => (intro w hSw; (try dsimp only at hSw); go_simp; try with_reducible rfl)
              try simp only [Act.put, List.setIfInBounds_toArray, List.set_cons_zero, List.set_cons_succ]
              refine wpAnyH_ready (rs := [3]) (by kernel_rfl) (by simp) ?_
              refine AllReadyH.cons rfl (fun K hK => ?_) AllReadyH.nil
              go_simp
              (go_at_call 76; refine (hasPrefix_any _ _ _ hr1 HCS.out).mono ?_; rw [HP.out]; rintro e w' ⟨rfl, rfl⟩)
              go_wp2_with fail
              refine hK.out _ _ (by (try dsimp only); go_keep) (fun hHeld => ?_)
              clear hK K
              try simp only [Act.put, List.setIfInBounds_toArray, List.set_cons_zero, List.set_cons_succ]
              refine take_of (some 25) (i := 4) (v := ?vq2_4) rfl rfl (by kernel_rfl) (by kernel_rfl) (by kernel_rfl) (fun _ _ _ h => h) (Or.inl ⟨by rfl, ?hyq2_4⟩) (by assumption) ?restq2_4
              case hyq2_4 => (intro w hSw; (try dsimp only at hSw); go_simp; try with_reducible rfl)
              try simp only [Act.put, List.setIfInBounds_toArray, List.set_cons_zero, List.set_cons_succ]
              refine take_of (some 26) (i := 5) (v := ?vq2_5) rfl rfl (by kernel_rfl) (by kernel_rfl) (by kernel_rfl) (fun _ _ _ h => h) (Or.inl ⟨by rfl, ?hyq2_5⟩) (by assumption) ?restq2_5
              case hyq2_5 => (intro w hSw; (try dsimp only at hSw); go_simp; try with_reducible rfl)
              try simp only [Act.put, List.setIfInBounds_toArray, List.set_cons_zero, List.set_cons_succ]
              refine take_of (some 27) (i := 6) (v := ?vq2_6) rfl rfl (by kernel_rfl) (by kernel_rfl) (by kernel_rfl) (fun _ _ _ h => h) (Or.inl ⟨by rfl, ?hyq2_6⟩) (by assumption) ?restq2_6
              case hyq2_6 => (intro w hSw; (try dsimp only at hSw); go_simp; try with_reducible rfl)
              try simp only [Act.put, List.setIfInBounds_toArray, List.set_cons_zero, List.set_cons_succ]
              refine take_of (some 28) (i := 7) (v := ?vq2_7) rfl rfl (by kernel_rfl) (by kernel_rfl) (by kernel_rfl) (fun _ _ _ h => h) (Or.inl ⟨by rfl, ?hyq2_7⟩) (by assumption) ?restq2_7
              case hyq2_7 => (intro w hSw; (try dsimp only at hSw); go_simp; try with_reducible rfl)
              try simp only [Act.put, List.setIfInBounds_toArray, List.set_cons_zero, List.set_cons_succ]
              refine take_of (some 29) (i := 8) (v := undef) rfl rfl (by kernel_rfl) (by kernel_rfl) (by kernel_rfl) (fun _ _ _ h => h) (Or.inr ⟨by rfl, rfl⟩) (by assumption) ?_
              try simp only [Act.put, List.setIfInBounds_toArray, List.set_cons_zero, List.set_cons_succ]
              refine take_of (some 30) (i := 9) (v := undef) rfl rfl (by kernel_rfl) (by kernel_rfl) (by kernel_rfl) (fun _ _ _ h => h) (Or.inr ⟨by rfl, rfl⟩) (by assumption) ?_
              try simp only [Act.put, List.setIfInBounds_toArray, List.set_cons_zero, List.set_cons_succ]
              refine take_of (some 31) (i := 10) (v := undef) rfl rfl (by kernel_rfl) (by kernel_rfl) (by kernel_rfl) (fun _ _ _ h => h) (Or.inr ⟨by rfl, rfl⟩) (by assumption) ?_
              try simp only [Act.put, List.setIfInBounds_toArray, List.set_cons_zero, List.set_cons_succ]
              refine take_of (some 32) (i := 11) (v := undef) rfl rfl (by kernel_rfl) (by kernel_rfl) (by kernel_rfl) (fun _ _ _ h => h) (Or.inr ⟨by rfl, rfl⟩) (by assumption) ?_
              try simp only [Act.put, List.setIfInBounds_toArray, List.set_cons_zero, List.set_cons_succ]
              refine take_of (some 33) (i := 12) (v := undef) rfl rfl (by kernel_rfl) (by kernel_rfl) (by kernel_rfl) (fun _ _ _ h => h) (Or.inr ⟨by rfl, rfl⟩) (by assumption) ?_
              try simp only [Act.put, List.setIfInBounds_toArray, List.set_cons_zero, List.set_cons_succ]
              refine take_of (some 34) (i := 13) (v := undef) rfl rfl (by kernel_rfl) (by kernel_rfl) (by kernel_rfl) (fun _ _ _ h => h) (Or.inr ⟨by rfl, rfl⟩) (by assumption) ?_
              try simp only [Act.put, List.setIfInBounds_toArray, List.set_cons_zero, List.set_cons_succ]
              refine take_of (some 35) (i := 14) (v := undef) rfl rfl (by kernel_rfl) (by kernel_rfl) (by kernel_rfl) (fun _ _ _ h => h) (Or.inr ⟨by rfl, rfl⟩) (by assumption) ?_
              try simp only [Act.put, List.setIfInBounds_toArray, List.set_cons_zero, List.set_cons_succ]
              refine take_of (some 36) (i := 15) (v := undef) rfl rfl (by kernel_rfl) (by kernel_rfl) (by kernel_rfl) (fun _ _ _ h => h) (Or.inr ⟨by rfl, rfl⟩) (by assumption) ?_
              try simp only [Act.put, List.setIfInBounds_toArray, List.set_cons_zero, List.set_cons_succ]
              refine take_of (some 37) (i := 16) (v := undef) rfl rfl (by kernel_rfl) (by kernel_rfl) (by kernel_rfl) (fun _ _ _ h => h) (Or.inr ⟨by rfl, rfl⟩) (by assumption) ?_
              try simp only [Act.put, List.setIfInBounds_toArray, List.set_cons_zero, List.set_cons_succ]
              refine take_of (some 38) (i := 17) (v := undef) rfl rfl (by kernel_rfl) (by kernel_rfl) (by kernel_rfl) (fun _ _ _ h => h) (Or.inr ⟨by rfl, rfl⟩) (by assumption) ?_
              try simp only [Act.put, List.setIfInBounds_toArray, List.set_cons_zero, List.set_cons_succ]
              refine take_of (some 39) (i := 18) (v := ?vq2_18) rfl rfl (by kernel_rfl) (by kernel_rfl) (by kernel_rfl) (fun _ _ _ h => h) (Or.inl ⟨by rfl, ?hyq2_18⟩) (by assumption) ?restq2_18
              case hyq2_18 => (intro w hSw; (try dsimp only at hSw); go_simp; try with_reducible rfl)
              try simp only [Act.put, List.setIfInBounds_toArray, List.set_cons_zero, List.set_cons_succ]
              refine take_of (some 40) (i := 19) (v := ?vq2_19) rfl rfl (by kernel_rfl) (by kernel_rfl) (by kernel_rfl) (fun _ _ _ h => h) (Or.inl ⟨by rfl, ?hyq2_19⟩) (by assumption) ?restq2_19
              case hyq2_19 => (intro w hSw; (try dsimp only at hSw); go_simp; try with_reducible rfl)
              try simp only [Act.put, List.setIfInBounds_toArray, List.set_cons_zero, List.set_cons_succ]
              refine wpAnyH_done (by kernel_rfl) ?_ _
              refine NoPanic.normal ?_
              go_wp2
              go_roundw
              case rel => exact ⟨k + 1, by omega, by go_num, by rw [HN.out], bl_trans HBI.out (by repeat (first | (with_reducible exact Below.refl _ _) | (with_reducible assumption) | (with_reducible refine bl_alloc ?_ _) | (with_reducible refine bl_drew ?_) | (with_reducible refine bl_drewN ?_ _) | ((with_reducible refine bl_set ?_ ?hb _); (case hb => first | (simp; done) | omega | (simp; omega))) | (with_reducible refine bl_trans ?_ (by assumption))))⟩
              case measure => simp [intOf]; omega
            · obtain ⟨bb2, off2, y2, e2, _, hy2, d0, d1⟩ := HRI.out.atSrt (show i < n by omega)
              obtain ⟨rfl, rfl⟩ : bb = bb2 ∧ off = off2 := by simpa using e2
              obtain rfl : y = y2 := by rw [q3] at hy2; exact Option.some.inj hy2
              have hsz : szAt xs (impTo xs r k) = y.code.size := by unfold szAt; rw [q1]; simp [q3]
              have hyz := HSZ.out y (List.mem_of_getElem? q3)
              have hd : decide ((i : Int) < 0) = false := decide_eq_false (by omega)
              have i0 : (0 : Int) ≤ (i : Int) := by omega
              have i1 : (i : Int) < (n : Int) := by omega
              have Q1 := Lib.hid q1
              by_cases hlen : y.code.size < x.code.size
              · have HN := Lib.hid (impTo_yes HX.out hp (.inr (by rw [hsz]; exact hlen)))
                have hd2 : decide ((y.code.size : Int) < (x.code.size : Int)) = true := by simp; omega
                rw [q1]
                clear hp q1 q3 e2 hy2 hsz
                go_wp2_with fail
                refine wp_region_noPanic ?_
                refine wp_region_held_drew (S := (fun w' => w'.cell? ⟨wr.heap.size, 0, none⟩ = some (.string x.code) ∧ w'.cell? ⟨bb, off + i * 2, none⟩ = some (.string y.code))) (by kernel_rfl) (by (try dsimp only); go_keep) (fun hHeld => ?_)
                refine take_of (some 21) (i := 0) (v := ?vq3_0) rfl rfl (by kernel_rfl) (by kernel_rfl) (by kernel_rfl) (fun _ _ _ h => h) (Or.inl ⟨by rfl, ?hyq3_0⟩) (by assumption) ?restq3_0
                case hyq3_0 => (intro w hSw; (try dsimp only at hSw); go_simp; try with_reducible rfl)
                try simp only [Act.put, List.setIfInBounds_toArray, List.set_cons_zero, List.set_cons_succ]
                refine take_of (some 22) (i := 1) (v := ?vq3_1) rfl rfl (by kernel_rfl) (by kernel_rfl) (by kernel_rfl) (fun _ _ _ h => h) (Or.inl ⟨by rfl, ?hyq3_1⟩) (by assumption) ?restq3_1
                case hyq3_1 => (intro w hSw; (try dsimp only at hSw); go_simp; try with_reducible rfl)
                try simp only [Act.put, List.setIfInBounds_toArray, List.set_cons_zero, List.set_cons_succ]
                refine take_of (some 23) (i := 2) (v := ?vq3_2) rfl rfl (by kernel_rfl) (by kernel_rfl) (by kernel_rfl) (fun _ _ _ h => h) (Or.inl ⟨by rfl, ?hyq3_2⟩) (by assumption) ?restq3_2
                case hyq3_2 => (intro w hSw; (try dsimp only at hSw); go_simp; try with_reducible rfl)
                try simp only [Act.put, List.setIfInBounds_toArray, List.set_cons_zero, List.set_cons_succ]
                refine wpAnyH_ready (rs := [3]) (by kernel_rfl) (by simp) ?_
                refine AllReadyH.cons rfl (fun K hK => ?_) AllReadyH.nil
                go_simp
                (go_at_call 76; refine (hasPrefix_any _ _ _ hr1 HCS.out).mono ?_; rw [HP.out]; rintro e w' ⟨rfl, rfl⟩)
                go_wp2_with fail
                refine hK.out _ _ (by (try dsimp only); go_keep) (fun hHeld => ?_)
                clear hK K
                try simp only [Act.put, List.setIfInBounds_toArray, List.set_cons_zero, List.set_cons_succ]
                refine take_of (some 25) (i := 4) (v := ?vq3_4) rfl rfl (by kernel_rfl) (by kernel_rfl) (by kernel_rfl) (fun _ _ _ h => h) (Or.inl ⟨by rfl, ?hyq3_4⟩) (by assumption) ?restq3_4
                case hyq3_4 => (intro w hSw; (try dsimp only at hSw); go_simp; try with_reducible rfl)
                try simp only [Act.put, List.setIfInBounds_toArray, List.set_cons_zero, List.set_cons_succ]
                refine take_of (some 26) (i := 5) (v := ?vq3_5) rfl rfl (by kernel_rfl) (by kernel_rfl) (by kernel_rfl) (fun _ _ _ h => h) (Or.inl ⟨by rfl, ?hyq3_5⟩) (by assumption) ?restq3_5
                case hyq3_5 => (intro w hSw; (try dsimp only at hSw); go_simp; try with_reducible rfl)
                try simp only [Act.put, List.setIfInBounds_toArray, List.set_cons_zero, List.set_cons_succ]
                refine take_of (some 27) (i := 6) (v := ?vq3_6) rfl rfl (by kernel_rfl) (by kernel_rfl) (by kernel_rfl) (fun _ _ _ h => h) (Or.inl ⟨by rfl, ?hyq3_6⟩) (by assumption) ?restq3_6
                case hyq3_6 => (intro w hSw; (try dsimp only at hSw); go_simp; try with_reducible rfl)
                try simp only [Act.put, List.setIfInBounds_toArray, List.set_cons_zero, List.set_cons_succ]
                refine take_of (some 28) (i := 7) (v := ?vq3_7) rfl rfl (by kernel_rfl) (by kernel_rfl) (by kernel_rfl) (fun _ _ _ h => h) (Or.inl ⟨by rfl, ?hyq3_7⟩) (by assumption) ?restq3_7
                case hyq3_7 => (intro w hSw; (try dsimp only at hSw); go_simp; try with_reducible rfl)
                try simp only [Act.put, List.setIfInBounds_toArray, List.set_cons_zero, List.set_cons_succ]
                refine take_of (some 29) (i := 8) (v := ?vq3_8) rfl rfl (by kernel_rfl) (by kernel_rfl) (by kernel_rfl) (fun _ _ _ h => h) (Or.inl ⟨by rfl, ?hyq3_8⟩) (by assumption) ?restq3_8
                case hyq3_8 => (intro w hSw; (try dsimp only at hSw); go_simp; try with_reducible rfl)
                try simp only [Act.put, List.setIfInBounds_toArray, List.set_cons_zero, List.set_cons_succ]
                refine take_of (some 30) (i := 9) (v := ?vq3_9) rfl rfl (by kernel_rfl) (by kernel_rfl) (by kernel_rfl) (fun _ _ _ h => h) (Or.inl ⟨by rfl, ?hyq3_9⟩) (by assumption) ?restq3_9
                case hyq3_9 => (intro w hSw; (try dsimp only at hSw); go_simp; try with_reducible rfl)
                try simp only [Act.put, List.setIfInBounds_toArray, List.set_cons_zero, List.set_cons_succ]
                refine take_of (some 31) (i := 10) (v := ?vq3_10) rfl rfl (by kernel_rfl) (by kernel_rfl) (by kernel_rfl) (fun _ _ _ h => h) (Or.inl ⟨by rfl, ?hyq3_10⟩) (by assumption) ?restq3_10
                case hyq3_10 => (intro w hSw; (try dsimp only at hSw); go_simp; try with_reducible rfl)
                try simp only [Act.put, List.setIfInBounds_toArray, List.set_cons_zero, List.set_cons_succ]
                refine take_of (some 32) (i := 11) (v := ?vq3_11) rfl rfl (by kernel_rfl) (by kernel_rfl) (by kernel_rfl) (fun _ _ _ h => h) (Or.inl ⟨by rfl, ?hyq3_11⟩) (by assumption) ?restq3_11
                case hyq3_11 => (intro w hSw; (try dsimp only at hSw); go_simp; try with_reducible rfl)
                try simp only [Act.put, List.setIfInBounds_toArray, List.set_cons_zero, List.set_cons_succ]
                refine take_of (some 33) (i := 12) (v := ?vq3_12) rfl rfl (by kernel_rfl) (by kernel_rfl) (by kernel_rfl) (fun _ _ _ h => h) (Or.inl ⟨by rfl, ?hyq3_12⟩) (by assumption) ?restq3_12
                case hyq3_12 => (intro w hSw; (try dsimp only at hSw); go_simp; try with_reducible rfl)
                try simp only [Act.put, List.setIfInBounds_toArray, List.set_cons_zero, List.set_cons_succ]
                refine take_of (some 34) (i := 13) (v := ?vq3_13) rfl rfl (by kernel_rfl) (by kernel_rfl) (by kernel_rfl) (fun _ _ _ h => h) (Or.inl ⟨by rfl, ?hyq3_13⟩) (by assumption) ?restq3_13
                case hyq3_13 => (intro w hSw; (try dsimp only at hSw); go_simp; try with_reducible rfl)
                try simp only [Act.put, List.setIfInBounds_toArray, List.set_cons_zero, List.set_cons_succ]
                refine take_of (some 35) (i := 14) (v := ?vq3_14) rfl rfl (by kernel_rfl) (by kernel_rfl) (by kernel_rfl) (fun _ _ _ h => h) (Or.inl ⟨by rfl, ?hyq3_14⟩) (by assumption) ?restq3_14
                case hyq3_14 => (intro w hSw; (try dsimp only at hSw); go_simp; try with_reducible rfl)
                try simp only [Act.put, List.setIfInBounds_toArray, List.set_cons_zero, List.set_cons_succ]
                refine take_of (some 36) (i := 15) (v := ?vq3_15) rfl rfl (by kernel_rfl) (by kernel_rfl) (by kernel_rfl) (fun _ _ _ h => h) (Or.inl ⟨by rfl, ?hyq3_15⟩) (by assumption) ?restq3_15
                case hyq3_15 => (intro w hSw; (try dsimp only at hSw); go_simp; try with_reducible rfl)
                try simp only [Act.put, List.setIfInBounds_toArray, List.set_cons_zero, List.set_cons_succ]
                refine take_of (some 37) (i := 16) (v := ?vq3_16) rfl rfl (by kernel_rfl) (by kernel_rfl) (by kernel_rfl) (fun _ _ _ h => h) (Or.inl ⟨by rfl, ?hyq3_16⟩) (by assumption) ?restq3_16
                case hyq3_16 => (intro w hSw; (try dsimp only at hSw); go_simp; try with_reducible rfl)
                try simp only [Act.put, List.setIfInBounds_toArray, List.set_cons_zero, List.set_cons_succ]
                refine take_of (some 38) (i := 17) (v := ?vq3_17) rfl rfl (by kernel_rfl) (by kernel_rfl) (by kernel_rfl) (fun _ _ _ h => h) (Or.inl ⟨by rfl, ?hyq3_17⟩) (by assumption) ?restq3_17
                case hyq3_17 => (intro w hSw; (try dsimp only at hSw); go_simp; try with_reducible rfl)
                try simp only [Act.put, List.setIfInBounds_toArray, List.set_cons_zero, List.set_cons_succ]
                refine take_of (some 39) (i := 18) (v := ?vq3_18) rfl rfl (by kernel_rfl) (by kernel_rfl) (by kernel_rfl) (fun _ _ _ h => h) (Or.inl ⟨by rfl, ?hyq3_18⟩) (by assumption) ?restq3_18
                case hyq3_18 => (intro w hSw; (try dsimp only at hSw); go_simp; try with_reducible rfl)
                try simp only [Act.put, List.setIfInBounds_toArray, List.set_cons_zero, List.set_cons_succ]
                refine take_of (some 40) (i := 19) (v := ?vq3_19) rfl rfl (by kernel_rfl) (by kernel_rfl) (by kernel_rfl) (fun _ _ _ h => h) (Or.inl ⟨by rfl, ?hyq3_19⟩) (by assumption) ?restq3_19
                case hyq3_19 => (intro w hSw; (try dsimp only at hSw); go_simp; try with_reducible rfl)
                try simp only [Act.put, List.setIfInBounds_toArray, List.set_cons_zero, List.set_cons_succ]
                refine wpAnyH_done (by kernel_rfl) ?_ _
                refine NoPanic.normal ?_
                go_wp2
                go_roundw
                case rel => exact ⟨k + 1, by omega, by go_num, by rw [HN.out], bl_trans HBI.out (by repeat (first | (with_reducible exact Below.refl _ _) | (with_reducible assumption) | (with_reducible refine bl_alloc ?_ _) | (with_reducible refine bl_drew ?_) | (with_reducible refine bl_drewN ?_ _) | ((with_reducible refine bl_set ?_ ?hb _); (case hb => first | (simp; done) | omega | (simp; omega))) | (with_reducible refine bl_trans ?_ (by assumption))))⟩
                case measure => simp [intOf]; omega
              · have HN := Lib.hid (impTo_no HX.out (.inr (by rw [hsz]; omega)))
                have hd2 : decide ((y.code.size : Int) < (x.code.size : Int)) = false := by simp; omega
                rw [q1]
                clear hp q1 q3 e2 hy2 hsz
                go_wp2_with fail
                refine wp_region_noPanic ?_
                refine wp_region_held_drew (S := (fun w' => w'.cell? ⟨wr.heap.size, 0, none⟩ = some (.string x.code) ∧ w'.cell? ⟨bb, off + i * 2, none⟩ = some (.string y.code))) (by kernel_rfl) (by (try dsimp only); go_keep) (fun hHeld => ?_)
                refine take_of (some 21) (i := 0) (v := ?vq4_0) rfl rfl (by kernel_rfl) (by kernel_rfl) (by kernel_rfl) (fun _ _ _ h => h) (Or.inl ⟨by rfl, ?hyq4_0⟩) (by assumption) ?restq4_0
                case hyq4_0 => (intro w hSw; (try dsimp only at hSw); go_simp; try with_reducible rfl)
                try simp only [Act.put, List.setIfInBounds_toArray, List.set_cons_zero, List.set_cons_succ]
                refine take_of (some 22) (i := 1) (v := ?vq4_1) rfl rfl (by kernel_rfl) (by kernel_rfl) (by kernel_rfl) (fun _ _ _ h => h) (Or.inl ⟨by rfl, ?hyq4_1⟩) (by assumption) ?restq4_1
                case hyq4_1 => (intro w hSw; (try dsimp only at hSw); go_simp; try with_reducible rfl)
                try simp only [Act.put, List.setIfInBounds_toArray, List.set_cons_zero, List.set_cons_succ]
                refine take_of (some 23) (i := 2) (v := ?vq4_2) rfl rfl (by kernel_rfl) (by kernel_rfl) (by kernel_rfl) (fun _ _ _ h => h) (Or.inl ⟨by rfl, ?hyq4_2⟩) (by assumption) ?restq4_2
                case hyq4_2 => (intro w hSw; (try dsimp only at hSw); go_simp; try with_reducible rfl)
                try simp only [Act.put, List.setIfInBounds_toArray, List.set_cons_zero, List.set_cons_succ]
                refine wpAnyH_ready (rs := [3]) (by kernel_rfl) (by simp) ?_
                refine AllReadyH.cons rfl (fun K hK => ?_) AllReadyH.nil
                go_simp
                (go_at_call 76; refine (hasPrefix_any _ _ _ hr1 HCS.out).mono ?_; rw [HP.out]; rintro e w' ⟨rfl, rfl⟩)
                go_wp2_with fail
                refine hK.out _ _ (by (try dsimp only); go_keep) (fun hHeld => ?_)
                clear hK K
                try simp only [Act.put, List.setIfInBounds_toArray, List.set_cons_zero, List.set_cons_succ]
                refine take_of (some 25) (i := 4) (v := ?vq4_4) rfl rfl (by kernel_rfl) (by kernel_rfl) (by kernel_rfl) (fun _ _ _ h => h) (Or.inl ⟨by rfl, ?hyq4_4⟩) (by assumption) ?restq4_4
                case hyq4_4 => (intro w hSw; (try dsimp only at hSw); go_simp; try with_reducible rfl)
                try simp only [Act.put, List.setIfInBounds_toArray, List.set_cons_zero, List.set_cons_succ]
                refine take_of (some 26) (i := 5) (v := ?vq4_5) rfl rfl (by kernel_rfl) (by kernel_rfl) (by kernel_rfl) (fun _ _ _ h => h) (Or.inl ⟨by rfl, ?hyq4_5⟩) (by assumption) ?restq4_5
                case hyq4_5 => (intro w hSw; (try dsimp only at hSw); go_simp; try with_reducible rfl)
                try simp only [Act.put, List.setIfInBounds_toArray, List.set_cons_zero, List.set_cons_succ]
                refine take_of (some 27) (i := 6) (v := ?vq4_6) rfl rfl (by kernel_rfl) (by kernel_rfl) (by kernel_rfl) (fun _ _ _ h => h) (Or.inl ⟨by rfl, ?hyq4_6⟩) (by assumption) ?restq4_6
                case hyq4_6 => (intro w hSw; (try dsimp only at hSw); go_simp; try with_reducible rfl)
                try simp only [Act.put, List.setIfInBounds_toArray, List.set_cons_zero, List.set_cons_succ]
                refine take_of (some 28) (i := 7) (v := ?vq4_7) rfl rfl (by kernel_rfl) (by kernel_rfl) (by kernel_rfl) (fun _ _ _ h => h) (Or.inl ⟨by rfl, ?hyq4_7⟩) (by assumption) ?restq4_7
                case hyq4_7 => (intro w hSw; (try dsimp only at hSw); go_simp; try with_reducible rfl)
                try simp only [Act.put, List.setIfInBounds_toArray, List.set_cons_zero, List.set_cons_succ]
                refine take_of (some 29) (i := 8) (v := ?vq4_8) rfl rfl (by kernel_rfl) (by kernel_rfl) (by kernel_rfl) (fun _ _ _ h => h) (Or.inl ⟨by rfl, ?hyq4_8⟩) (by assumption) ?restq4_8
                case hyq4_8 => (intro w hSw; (try dsimp only at hSw); go_simp; try with_reducible rfl)
                try simp only [Act.put, List.setIfInBounds_toArray, List.set_cons_zero, List.set_cons_succ]
                refine take_of (some 30) (i := 9) (v := ?vq4_9) rfl rfl (by kernel_rfl) (by kernel_rfl) (by kernel_rfl) (fun _ _ _ h => h) (Or.inl ⟨by rfl, ?hyq4_9⟩) (by assumption) ?restq4_9
                case hyq4_9 => (intro w hSw; (try dsimp only at hSw); go_simp; try with_reducible rfl)
                try simp only [Act.put, List.setIfInBounds_toArray, List.set_cons_zero, List.set_cons_succ]
                refine take_of (some 31) (i := 10) (v := ?vq4_10) rfl rfl (by kernel_rfl) (by kernel_rfl) (by kernel_rfl) (fun _ _ _ h => h) (Or.inl ⟨by rfl, ?hyq4_10⟩) (by assumption) ?restq4_10
                case hyq4_10 => (intro w hSw; (try dsimp only at hSw); go_simp; try with_reducible rfl)
                try simp only [Act.put, List.setIfInBounds_toArray, List.set_cons_zero, List.set_cons_succ]
                refine take_of (some 32) (i := 11) (v := ?vq4_11) rfl rfl (by kernel_rfl) (by kernel_rfl) (by kernel_rfl) (fun _ _ _ h => h) (Or.inl ⟨by rfl, ?hyq4_11⟩) (by assumption) ?restq4_11
                case hyq4_11 => (intro w hSw; (try dsimp only at hSw); go_simp; try with_reducible rfl)
                try simp only [Act.put, List.setIfInBounds_toArray, List.set_cons_zero, List.set_cons_succ]
                refine take_of (some 33) (i := 12) (v := ?vq4_12) rfl rfl (by kernel_rfl) (by kernel_rfl) (by kernel_rfl) (fun _ _ _ h => h) (Or.inl ⟨by rfl, ?hyq4_12⟩) (by assumption) ?restq4_12
                case hyq4_12 => (intro w hSw; (try dsimp only at hSw); go_simp; try with_reducible rfl)
                try simp only [Act.put, List.setIfInBounds_toArray, List.set_cons_zero, List.set_cons_succ]
                refine take_of (some 34) (i := 13) (v := ?vq4_13) rfl rfl (by kernel_rfl) (by kernel_rfl) (by kernel_rfl) (fun _ _ _ h => h) (Or.inl ⟨by rfl, ?hyq4_13⟩) (by assumption) ?restq4_13
                case hyq4_13 => (intro w hSw; (try dsimp only at hSw); go_simp; try with_reducible rfl)
                try simp only [Act.put, List.setIfInBounds_toArray, List.set_cons_zero, List.set_cons_succ]
                refine take_of (some 35) (i := 14) (v := ?vq4_14) rfl rfl (by kernel_rfl) (by kernel_rfl) (by kernel_rfl) (fun _ _ _ h => h) (Or.inl ⟨by rfl, ?hyq4_14⟩) (by assumption) ?restq4_14
                case hyq4_14 => (intro w hSw; (try dsimp only at hSw); go_simp; try with_reducible rfl)
                try simp only [Act.put, List.setIfInBounds_toArray, List.set_cons_zero, List.set_cons_succ]
                refine take_of (some 36) (i := 15) (v := ?vq4_15) rfl rfl (by kernel_rfl) (by kernel_rfl) (by kernel_rfl) (fun _ _ _ h => h) (Or.inl ⟨by rfl, ?hyq4_15⟩) (by assumption) ?restq4_15
                case hyq4_15 => (intro w hSw; (try dsimp only at hSw); go_simp; try with_reducible rfl)
                try simp only [Act.put, List.setIfInBounds_toArray, List.set_cons_zero, List.set_cons_succ]
                refine take_of (some 37) (i := 16) (v := ?vq4_16) rfl rfl (by kernel_rfl) (by kernel_rfl) (by kernel_rfl) (fun _ _ _ h => h) (Or.inl ⟨by rfl, ?hyq4_16⟩) (by assumption) ?restq4_16
                case hyq4_16 => (intro w hSw; (try dsimp only at hSw); go_simp; try with_reducible rfl)
                try simp only [Act.put, List.setIfInBounds_toArray, List.set_cons_zero, List.set_cons_succ]
                refine take_of (some 38) (i := 17) (v := ?vq4_17) rfl rfl (by kernel_rfl) (by kernel_rfl) (by kernel_rfl) (fun _ _ _ h => h) (Or.inl ⟨by rfl, ?hyq4_17⟩) (by assumption) ?restq4_17
                case hyq4_17 => (intro w hSw; (try dsimp only at hSw); go_simp; try with_reducible rfl)
                try simp only [Act.put, List.setIfInBounds_toArray, List.set_cons_zero, List.set_cons_succ]
                refine take_of (some 39) (i := 18) (v := ?vq4_18) rfl rfl (by kernel_rfl) (by kernel_rfl) (by kernel_rfl) (fun _ _ _ h => h) (Or.inl ⟨by rfl, ?hyq4_18⟩) (by assumption) ?restq4_18
                case hyq4_18 => (intro w hSw; (try dsimp only at hSw); go_simp; try with_reducible rfl)
                try simp only [Act.put, List.setIfInBounds_toArray, List.set_cons_zero, List.set_cons_succ]
                refine take_of (some 40) (i := 19) (v := ?vq4_19) rfl rfl (by kernel_rfl) (by kernel_rfl) (by kernel_rfl) (fun _ _ _ h => h) (Or.inl ⟨by rfl, ?hyq4_19⟩) (by assumption) ?restq4_19
                case hyq4_19 => (intro w hSw; (try dsimp only at hSw); go_simp; try with_reducible rfl)
                try simp only [Act.put, List.setIfInBounds_toArray, List.set_cons_zero, List.set_cons_succ]
                refine wpAnyH_done (by kernel_rfl) ?_ _
                refine NoPanic.normal ?_
                go_wp2
                go_roundw
                case rel => exact ⟨k + 1, by omega, by go_num, by rw [HN.out, Q1.out], bl_trans HBI.out (by repeat (first | (with_reducible exact Below.refl _ _) | (with_reducible assumption) | (with_reducible refine bl_alloc ?_ _) | (with_reducible refine bl_drew ?_) | (with_reducible refine bl_drewN ?_ _) | ((with_reducible refine bl_set ?_ ?hb _); (case hb => first | (simp; done) | omega | (simp; omega))) | (with_reducible refine bl_trans ?_ (by assumption))))⟩
                case measure => simp [intOf]; omega
        · obtain rfl : k = n := by omega
          have HB := Lib.hid (show impTo xs r k = best xs (bytes r) by rw [← HBEST.out r, hl])
          rw [HB.out]
          have HBF := Lib.hid hbi
          have hBi : B ≤ wr.heap.size := by have := hbi.size; omega
          clear hbi
          have hne : bytes r ≠ [] := by rw [← List.length_pos_iff, bytes_len]; exact hr0
          by_cases hneg : best xs (bytes r) < 0
          · have hV : setV xs (bytes s) = none := by rw [← HG.out]; exact setGo_fail (by omega) hne hneg
            obtain ⟨e1, e2⟩ := set_none hV
            have E1 := Lib.hid e1
            have E2 := Lib.hid e2
            have HBW2 := Lib.hid (show Below w.heap.size w wr from HBW.out.trans (HBF.out.mono (by have := HBW.out.size; omega)))
            clear hV e1 e2 hne
            go_wp2
            go_ret2
            rw [E1.out, E2.out]
            exact rets_nil rfl (bl_trans HBW2.out (by repeat (first | (with_reducible exact Below.refl _ _) | (with_reducible assumption) | (with_reducible refine bl_alloc ?_ _) | (with_reducible refine bl_drew ?_) | (with_reducible refine bl_drewN ?_ _) | ((with_reducible refine bl_set ?_ ?hb _); (case hb => first | (simp; done) | omega | (simp; omega))) | (with_reducible refine bl_trans ?_ (by assumption))))) _ _
          · rcases best_cases xs (bytes r) with hb0 | ⟨m, q, x, m1, m2, m3, hbk, hxk, hkl, hxs⟩
            · omega
            · rw [bytes_len] at m3
              obtain ⟨tt, rfl⟩ : ∃ tt, t = tt + 1 := ⟨t - 1, by omega⟩
              have HST := Lib.hid (show setGo xs tt (bytes (r.extract m r.size)) (L ++ [(q : Int)]) = setV xs (bytes s) by
                rw [← HG.out, setGo_step hne hbk hxk, hxs, bytes_ext, List.take_of_length_le (by rw [List.length_drop, bytes_len]; omega)])
              have HO2 := Lib.hid (HO.out.below HBF.out)
              have HXK := Lib.hid hxk
              have HXS := Lib.hid hxs
              have hLs : L.length ≤ 1048576 := by omega
              rw [hbk]
              clear hbk hxk hxs hne hneg
              go_wp2_with (at_builtin; refine wpList_append_own_at _ rfl _ _ 39 rfl w.heap.size 3 i0 (.int .i64 0) 1 8 Try.underlying39 hi0 hi1 hi2 hi3 rfl (by decide) _ _ _ rfl ((HO2.out.alloc _).own) ⟨wr.heap.size, 0, none⟩ 1 1 [.int .i64 (q)] rfl rfl ?zc1 ?zc2 ?zc3 ?zc4 ?zc5 ?_)
              case zc1 => exact cell_one_new _ _ _
              case zc2 => first | rfl | (intro u hu; simp at hu; subst hu; rfl)
              case zc3 => unfold maxLen; omega
              case zc4 => omega
              case zc5 => have := HO2.out.gr.size; simp; omega
              intro v' w5 hown5 hg5 _ hat5
              have HN5 := Lib.hid (HO2.out.push hown5 hg5 hat5)
              have hb5 : Below w.heap.size w w5 := HN5.out.to_below (Nat.le_refl _) (Nat.le_refl _)
              obtain ⟨bb, offb, y, rfl, _, hy, d0, d1⟩ := (hr.below (hb5.mono hB)).atSrt (show q < k by omega)
              obtain rfl : x = y := by have := HXK.out; rw [this] at hy; exact Option.some.inj hy
              have i0 : (0 : Int) ≤ (q : Int) := by omega
              have i1 : (q : Int) < (k : Int) := by omega
              have hxz : x.code.size = m := HXS.out
              have j0 : (0 : Int) ≤ (m : Int) := by omega
              have j1 : (m : Int) ≤ (r.size : Int) := by omega
              have HES := Lib.hid (show (r.extract m r.size).size = r.size - m by rw [← bytes_len, bytes_ext, List.length_take, List.length_drop, bytes_len]; omega)
              clear hown5 hg5 hat5 hy hb5
              go_wp2
              go_roundw
              case rel => exact ⟨r.extract m r.size, tt, L ++ [(q : Int)], rfl, by rw [HES.out]; simp; omega, by rw [HES.out]; omega, by simpa using HN5.out, HST.out⟩
              case measure => show (r.extract m r.size).size < r.size; rw [HES.out]; omega
    · have hV : setV xs (bytes s) = some L := by
        rw [← HG.out]
        refine setGo_end (by omega) (List.eq_nil_of_length_eq_zero ?_)
        rw [bytes_len]
        omega
      obtain ⟨e1, e2⟩ := set_some hV
      have hbl := hown.to_below (B := w.heap.size) (Nat.le_refl _) (Nat.le_refl _)
      obtain ⟨A', cap, rfl, hwr⟩ := own_wr hown.own
      have HW := Lib.hid hwr
      have E1 := Lib.hid e1
      have E2 := Lib.hid e2
      clear hown hwr hV e1 e2
      go_wp2
      go_ret2
      refine ⟨A', cap, by rw [E1.out, E2.out]; rfl, by rw [E1.out]; exact HW.out, hbl⟩
end Go.Proofs.Ytfehdpaoboiodaa
