/-
  The library's swapRange_func and rotate_func, walked.
-/
import Derived.Test.YtblgeehdngejpaaOwn
import Derived.Shelf.GgSortMore.Stable
namespace Go.Proofs.Ytblgeehdngejpaa
open Go.RowKit Go.Lib Go.Sort Go.Shelf
set_option linter.unusedVariables false
variable {en : Int → Value}

/-- the sort's two functions, boxed -/
def boxO (g : Nat) (lb : Array Value) (sf : Nat) (sb : Array Value) : Obj := .cells #[.func (.func g) #[] lb, .func (.func sf) #[] sb] 44
theorem sw_cell {w0 W : World} {blk off : Nat} {dk : Array Int} (h : SW en w0 blk off dk W) {k : Nat} (hk : k ≠ blk) (hlt : k < w0.heap.size) (o : Nat) : W.cell? ⟨k, o, none⟩ = w0.cell? ⟨k, o, none⟩ := by
  obtain ⟨n, os, rfl⟩ := h
  unfold sortWorld
  rw [cell?_grow _ _ _ (by rw [size_putRow]; show k < (Sort.ahead w0 n).heap.size; exact hlt), cell?_putRow_other en _ blk off _ _ (Or.inl hk)]
  rfl
theorem sw_trans {w0 W W' : World} {blk off : Nat} {dk d' : Array Int} (h : SW en w0 blk off dk W) (hblk : blk < w0.heap.size) (hs : d'.size = dk.size) (h' : SW en W blk off d' W') : SW en w0 blk off d' W' := by
  obtain ⟨n, os, rfl⟩ := h'
  exact h.on hblk n d' os hs
/-- n places from a on and n from b on change places -/
def SwR (a b n : Nat) (d d' : Array Int) : Prop := d'.size = d.size ∧ ∀ k, d'[k]! = if a ≤ k ∧ k < a + n then d[b + (k - a)]! else if b ≤ k ∧ k < b + n then d[a + (k - b)]! else d[k]!
theorem SwR.zero (a b : Nat) (d : Array Int) : SwR a b 0 d d := ⟨rfl, fun k => by rw [if_neg (by omega), if_neg (by omega)]⟩
theorem SwR.succ {a b n : Nat} {d d' : Array Int} (h : SwR a b n d d') (hab : a + (n + 1) ≤ b) (hb : b + (n + 1) ≤ d.size) : SwR a b (n + 1) d (swp d' (a + n) (b + n)) := by
  obtain ⟨hs, hk⟩ := h
  refine ⟨by rw [size_swp, hs], fun k => ?_⟩
  have e1 := hk (a + n)
  rw [if_neg (by omega), if_neg (by omega)] at e1
  have e2 := hk (b + n)
  rw [if_neg (by omega), if_neg (by omega)] at e2
  by_cases h1 : k = a + n
  · subst h1
    rw [swp_left _ _ _ (by omega) (by omega), e2, if_pos (by omega)]
    congr 1; omega
  · by_cases h2 : k = b + n
    · subst h2
      rw [swp_right _ _ _ (by omega), e1, if_neg (by omega), if_pos (by omega)]
      congr 1; omega
    · rw [swp_other _ _ _ _ h1 h2, hk k]
      by_cases h3 : a ≤ k ∧ k < a + n
      · rw [if_pos h3, if_pos (by omega)]
      · rw [if_neg h3, if_neg (show ¬ (a ≤ k ∧ k < a + (n + 1)) by omega)]
        by_cases h4 : b ≤ k ∧ k < b + n
        · rw [if_pos h4, if_pos (by omega)]
        · rw [if_neg h4, if_neg (by omega)]
set_option maxRecDepth 8000 in
set_option maxHeartbeats 2000000 in
theorem swapRange_any (g : Nat) (lb : Array Value) (sf : Nat) (sb : Array Value) (blk off a b n size : Nat) (d : Array Int) (W : World) (hswap : SwapSwaps Try.prog sf sb en blk off size)
    (hH : Holds en W blk off d) (hblk : blk < W.heap.size) (hd : d.size = size) (hab : a + n ≤ b) (hbn : b + n ≤ size) (hsz : size ≤ 1000) :
    Calls Try.prog 32 #[.agg #[.func (.func g) #[] lb, .func (.func sf) #[] sb], .int .i64 a, .int .i64 b, .int .i64 n] W fun e w' => e = .returned (.tuple #[]) ∧ ∃ d', SW en W blk off d' w' ∧ SwR a b n d d' := by
  obtain ⟨WB, hWB⟩ : ∃ WB, WB = W.alloc (boxO g lb sf sb) := ⟨_, rfl⟩
  have hSB : SW en W blk off d WB := by rw [hWB]; exact (SW.start hH).alloc _
  have hHB : Holds en WB blk off d := hSB.holds hblk hH rfl
  have hbB : blk < WB.heap.size := hSB.lt hblk
  have hgB : W.heap.size < WB.heap.size := by rw [hWB]; simp
  have c1 : WB.cell? ⟨W.heap.size, 1, none⟩ = some (.func (.func sf) #[] sb) := by rw [hWB]; simp [boxO]
  have HSB := Lib.hid hSB
  have HHB := Lib.hid hHB
  have HSW := Lib.hid hswap
  have hne : W.heap.size ≠ blk := by omega
  have HWB := Lib.hid hWB
  clear hSB hHB hswap hH hWB
  go_enter Try.func32, Try.ntmps32
  go_wp2
  rw [show W.alloc (.cells #[.func (.func g) #[] lb, .func (.func sf) #[] sb] 44) = WB from HWB.out.symm]
  go_loopw [8] (fun i wr => ∃ (j : Nat) (dj : Array Int), j ≤ n ∧ i = .int .i64 j ∧ Hid (SW en WB blk off dj wr) ∧ Hid (SwR a b j d dj)) (fun i _ => n - (intOf i).toNat)
  case atStart => exact ⟨0, d, Nat.zero_le _, rfl, Lib.hid (SW.start HHB.out), Lib.hid (SwR.zero a b d)⟩
  case round =>
    obtain ⟨j, dj, hj, rfl, HS, HR⟩ := hrel
    have k1 : wr.cell? ⟨W.heap.size, 1, none⟩ = some (.func (.func sf) #[] sb) := (sw_cell HS.out hne hgB 1).trans c1
    by_cases hlt : j < n
    · have hs := HSW.out wr dj (HS.out.holds hbB HHB.out (HR.out.1)) (by rw [HR.out.1, hd]) (a + j) (b + j) (by omega) (by omega)
      have HS2 := Lib.hid (HS.out.swap hbB (a + j) (b + j) (by rw [HR.out.1]; omega) (by rw [HR.out.1]; omega))
      have HR2 := Lib.hid (HR.out.succ (by omega) (by omega))
      rw [show (((a + j : Nat)) : Int) = (a : Int) + j by omega, show (((b + j : Nat)) : Int) = (b : Int) + j by omega] at hs
      go_wp2
      go_roundw
      case rel => exact ⟨j + 1, _, by omega, by go_num, HS2, HR2⟩
      case measure => simp [intOf]; omega
    · have hjn : j = n := by omega
      subst hjn
      go_wp2
      go_end0
      exact ⟨rfl, dj, sw_trans HSB.out hblk HR.out.1 HS.out, HR.out⟩
end Go.Proofs.Ytblgeehdngejpaa
