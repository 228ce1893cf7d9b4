/-
  BestCastOrder: csBest, the reference model's recursion.
-/
import Derived.Test.YtabmhmbmdegoaaaCs18
import Derived.Test.YtabmhmbmdegoaaaDrw
namespace Go.Proofs.Ytabmhmbmdegoaaa
open Go.RowKit
set_option linter.unusedVariables false
attribute [local go_sem ↓] Go.wp_at_zero Go.wp_at_succ

/-- returns a slice of int that reads the list of R, in memory from b0 on, and R's number -/
def ResB (b0 : Nat) (w : World) (R : List Int × Int) (e : Ending) (w' : World) : Prop := ∃ A c, e = .returned (.tuple #[.slice A R.1.length c, .int .i64 R.2]) ∧ Wr w' b0 A R.1.length R.1 ∧ Below w.heap.size w w' ∧ R.1.length ≤ 8
theorem bs0_new {n : Nat} {t : List Int → Int} {L : List Int} {s : List Int × Int} (h : s.1.length < n ∨ t L < s.2) : bs n t 0 L s = (L, t L) := by
  show bsFull n t L s = _
  unfold bsFull; rw [if_pos h]
theorem bs0_old {n : Nat} {t : List Int → Int} {L : List Int} {s : List Int × Int} (h : ¬ (s.1.length < n ∨ t L < s.2)) : bs n t 0 L s = s := by
  show bsFull n t L s = _
  unfold bsFull; rw [if_neg h]
def BsAll (a h c : Int) (A : Option Addr) (n cp : Nat) (xs : List Cst) (b0 f : Nat) : Prop :=
  ∀ (A1 : Option Addr) (k k1 : Nat) (L : List Int) (A2 : Option Addr) (kb kc : Nat) (best : List Int) (least : Int) (w : World), L.length + f = n → Rd cCst 2 w w.heap.size A n xs → Wr w b0 A1 k L → k ≤ k1 → Wr w b0 A2 kb best → diffB L (xs.length : Int) = true → best.length ≤ 8 → b0 ≤ w.heap.size →
    Calls Try.prog 69 #[.agg #[.int .i64 a, .int .i64 h, .int .i64 c], .slice A n cp, .slice A1 k k1, .slice A2 kb kc, .int .i64 least] w (ResB b0 w (bs n (tmV a h c xs) f L (best, least)))
set_option maxHeartbeats 4000000 in
theorem csBest_zero (a h c : Int) (A : Option Addr) (n cp : Nat) (xs : List Cst) (b0 : Nat) (hn : n ≤ 8) (hxl : xs.length = n) (hm : machB a h c = true) (hx : castsB xs = true) : BsAll a h c A n cp xs b0 0 := by
  intro A1 k k1 L A2 kb kc best least w hLf hr hw hk1 hwb hd hbl hb0
  have hl := hw.1
  have hlb := hwb.1
  have HW := Lib.hid hw
  have HWB := Lib.hid hwb
  have HLA := Lib.hid (fun (W : World) (hb : Below w.heap.size w W) => csLast_any a h c A A1 n cp k k1 xs L W ⟨(hr.below hb).more hb.size, (hw.below hb).rd, by omega, by omega, hk1⟩ (ordB_of hm hx hd))
  obtain ⟨t, ht⟩ : ∃ t, (csTo h c xs L a L.length).t = t := ⟨_, rfl⟩
  rw [ht] at HLA
  have htm : tmV a h c xs L = t := ht
  have hbe : ((k : Int) == (n : Int)) = true := by simp; omega
  clear hr hw hwb hd ht
  by_cases h1 : kb < n
  · have HF := Lib.hid (show bs n (tmV a h c xs) 0 L (best, least) = (L, t) by rw [bs0_new (.inl (by dsimp only; omega)), htm])
    clear htm
    go_enter Try.func69, Try.ntmps69
    go_wp2_with (go_at_call 60; refine (HLA.out _ (by repeat (first | (with_reducible exact Below.refl _ _) | (with_reducible assumption) | (with_reducible refine bl_alloc ?_ _) | (with_reducible refine bl_drew ?_) | (with_reducible refine bl_drewN ?_ _) | ((with_reducible refine bl_set ?_ ?hb _); (case hb => first | (simp; done) | omega | (simp; omega))) | (with_reducible refine bl_trans ?_ (by assumption))))).mono ?_; rintro e w6 ⟨rfl, hb⟩; have HB6 := Lib.hid (show Below w.heap.size w w6 from by repeat (first | (with_reducible exact Below.refl _ _) | (with_reducible assumption) | (with_reducible refine bl_alloc ?_ _) | (with_reducible refine bl_drew ?_) | (with_reducible refine bl_drewN ?_ _) | ((with_reducible refine bl_set ?_ ?hb _); (case hb => first | (simp; done) | omega | (simp; omega))) | (with_reducible refine bl_trans ?_ (by assumption)))); clear hb)
    go_ret2
    rw [HF.out]
    exact ⟨A1, k1, by rw [hl]; rfl, by rw [hl]; exact HW.out.below HB6.out, HB6.out, by show L.length ≤ 8; omega⟩
  · by_cases h2 : t < least
    · have HF := Lib.hid (show bs n (tmV a h c xs) 0 L (best, least) = (L, t) by rw [bs0_new (.inr (by rw [htm]; exact h2)), htm])
      clear htm
      go_enter Try.func69, Try.ntmps69
      go_wp2_with (go_at_call 60; refine (HLA.out _ (by repeat (first | (with_reducible exact Below.refl _ _) | (with_reducible assumption) | (with_reducible refine bl_alloc ?_ _) | (with_reducible refine bl_drew ?_) | (with_reducible refine bl_drewN ?_ _) | ((with_reducible refine bl_set ?_ ?hb _); (case hb => first | (simp; done) | omega | (simp; omega))) | (with_reducible refine bl_trans ?_ (by assumption))))).mono ?_; rintro e w6 ⟨rfl, hb⟩; have HB6 := Lib.hid (show Below w.heap.size w w6 from by repeat (first | (with_reducible exact Below.refl _ _) | (with_reducible assumption) | (with_reducible refine bl_alloc ?_ _) | (with_reducible refine bl_drew ?_) | (with_reducible refine bl_drewN ?_ _) | ((with_reducible refine bl_set ?_ ?hb _); (case hb => first | (simp; done) | omega | (simp; omega))) | (with_reducible refine bl_trans ?_ (by assumption)))); clear hb)
      go_ret2
      rw [HF.out]
      exact ⟨A1, k1, by rw [hl]; rfl, by rw [hl]; exact HW.out.below HB6.out, HB6.out, by show L.length ≤ 8; omega⟩
    · have HF := Lib.hid (show bs n (tmV a h c xs) 0 L (best, least) = (best, least) from bs0_old (by dsimp only; rw [htm]; omega))
      clear htm
      go_enter Try.func69, Try.ntmps69
      go_wp2_with (go_at_call 60; refine (HLA.out _ (by repeat (first | (with_reducible exact Below.refl _ _) | (with_reducible assumption) | (with_reducible refine bl_alloc ?_ _) | (with_reducible refine bl_drew ?_) | (with_reducible refine bl_drewN ?_ _) | ((with_reducible refine bl_set ?_ ?hb _); (case hb => first | (simp; done) | omega | (simp; omega))) | (with_reducible refine bl_trans ?_ (by assumption))))).mono ?_; rintro e w6 ⟨rfl, hb⟩; have HB6 := Lib.hid (show Below w.heap.size w w6 from by repeat (first | (with_reducible exact Below.refl _ _) | (with_reducible assumption) | (with_reducible refine bl_alloc ?_ _) | (with_reducible refine bl_drew ?_) | (with_reducible refine bl_drewN ?_ _) | ((with_reducible refine bl_set ?_ ?hb _); (case hb => first | (simp; done) | omega | (simp; omega))) | (with_reducible refine bl_trans ?_ (by assumption)))); clear hb)
      go_ret2
      rw [HF.out]
      exact ⟨A2, kc, by rw [hlb]; rfl, by rw [hlb]; exact HWB.out.below HB6.out, HB6.out, hbl⟩
end Go.Proofs.Ytabmhmbmdegoaaa
