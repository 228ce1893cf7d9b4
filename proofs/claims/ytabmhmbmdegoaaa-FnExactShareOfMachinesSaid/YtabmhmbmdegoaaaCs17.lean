/-
  BestCastOrder: the closure's walk.
-/
import Derived.Test.YtabmhmbmdegoaaaCs16
namespace Go.Proofs.Ytabmhmbmdegoaaa
open Go.RowKit
set_option linter.unusedVariables false
attribute [local go_sem ↓] Go.wp_at_zero Go.wp_at_succ

set_option maxHeartbeats 2000000 in
theorem best1_any (pb pm pl : Nat) (a h c : Int) (A : Option Addr) (n cp : Nat) (xs : List Cst) (u : List Int × Int) (A1 : Option Addr) (k k1 : Nat) (L : List Int) (w : World)
    (s : StB w pb pm pl a h c A n cp xs u) (hw : Wr w (pb + 2) A1 k L) (hk1 : k ≤ k1) (hn : n ≤ 8) (hm : machB a h c = true) (hx : castsB xs = true) (hd : diffB L (xs.length : Int) = true) (hbl : u.1.length ≤ 8) :
    Calls Try.prog 70 #[.slice A1 k k1, .pointer (some ⟨pl, 0, none⟩), .pointer (some ⟨pm, 0, none⟩), .pointer (some ⟨pb + 1, 0, none⟩), .pointer (some ⟨pb, 0, none⟩)] w
      (CloB w pb pm pl a h c A n cp xs (bStep n (tmV a h c xs) u L)) := by
  have S := Lib.hid s
  have HW := Lib.hid hw
  have hl := hw.1
  have hxl := s.rd.1
  have hL8 : L.length ≤ 8 := by have := diff_len hd; omega
  have HT := Lib.hid (fun (W : World) (hb : Below w.heap.size w W) => implTime_any a h c A A1 n cp k k1 xs L W ⟨(s.below hb).rd.more (by have := (s.below hb).lt; omega), (hw.below hb).rd, by omega, by omega, hk1⟩ (ordB_of hm hx hd))
  obtain ⟨A', c', e1, e2⟩ := s.b
  have c0 := s.c0; have c1 := s.c1; have c2 := s.c2; have c3 := s.c3; have c4 := s.c4; have fr := s.fr; have fq := s.fq
  have h1 := s.lt; have h2 := s.hm; have h3 := s.hl
  clear s hw e2
  by_cases hlt : k < n
  · have HN := Lib.hid (bStep_short (t := tmV a h c xs) (s := u) (L := L) (n := n) (by omega))
    have hi : (k : Int) < (n : Int) := by omega
    go_enter Try.func70, Try.ntmps70
    go_wp2
    (first | go_end0 | refine bodyPost_ret (results_none rfl _ _ _) rfl ?_)
    rw [HN.out]
    exact ⟨rfl, S.out, fr_bl (Below.refl _ _), hbl⟩
  · have hi : ¬ (k : Int) < (n : Int) := by omega
    obtain ⟨t, ht⟩ : ∃ t, (csTo h c xs L a L.length).t = t := ⟨_, rfl⟩
    rw [ht] at HT
    have HTV := Lib.hid (show tmV a h c xs L = t from ht)
    clear ht
    obtain ⟨ub, ul⟩ := u
    dsimp only at c4 hbl e1
    by_cases hneg : ul < 0 ∨ t < ul
    · have HN := Lib.hid (show bStep n (tmV a h c xs) (ub, ul) L = (L, t) by rw [bStep_new (by omega) (by rw [HTV.out]; exact hneg), HTV.out])
      have HNG := Lib.hid hneg
      by_cases hn0 : ul < 0
      · clear hneg
        go_enter Try.func70, Try.ntmps70
        go_wp2_with (go_at_call 61; refine (HT.out _ (Below.refl _ _)).mono ?_; rintro e w' ⟨rfl, hb⟩; obtain ⟨hc1, hf1, hz1⟩ := bl_at hb (k := pb) (by omega); obtain ⟨hc4, hf4, hz4⟩ := bl_at hb (k := pb + 1) (by omega))
        have hbw : Below w.heap.size w w' := hb
        (first | go_end0 | refine bodyPost_ret (results_none rfl _ _ _) rfl ?_)
        rw [HN.out]
        exact ⟨rfl, (S.out.below hbw).store hl (HW.out.below hbw), fr_set (fr_set (fr_bl hbw) (by omega) (by omega) _ _) (by omega) (by omega) _ _, hL8⟩
      · clear hneg
        have htl : t < ul := by
          rcases HNG.out with h | h
          · omega
          · exact h
        go_enter Try.func70, Try.ntmps70
        go_wp2_with (go_at_call 61; refine (HT.out _ (Below.refl _ _)).mono ?_; rintro e w' ⟨rfl, hb⟩; obtain ⟨hc1, hf1, hz1⟩ := bl_at hb (k := pb) (by omega); obtain ⟨hc4, hf4, hz4⟩ := bl_at hb (k := pb + 1) (by omega))
        have hbw : Below w.heap.size w w' := hb
        (first | go_end0 | refine bodyPost_ret (results_none rfl _ _ _) rfl ?_)
        rw [HN.out]
        exact ⟨rfl, (S.out.below hbw).store hl (HW.out.below hbw), fr_set (fr_set (fr_bl hbw) (by omega) (by omega) _ _) (by omega) (by omega) _ _, hL8⟩
    · have HN := Lib.hid (show bStep n (tmV a h c xs) (ub, ul) L = (ub, ul) from bStep_old (by rw [HTV.out]; exact hneg))
      have hn0 : ¬ ul < 0 := fun h => hneg (.inl h)
      have htl : ¬ t < ul := fun h => hneg (.inr h)
      clear hneg
      go_enter Try.func70, Try.ntmps70
      go_wp2_with (go_at_call 61; refine (HT.out _ (Below.refl _ _)).mono ?_; rintro e w' ⟨rfl, hb⟩; obtain ⟨hc1, hf1, hz1⟩ := bl_at hb (k := pb) (by omega); obtain ⟨hc4, hf4, hz4⟩ := bl_at hb (k := pb + 1) (by omega))
      have hbw : Below w.heap.size w w' := hb
      (first | go_end0 | refine bodyPost_ret (results_none rfl _ _ _) rfl ?_)
      rw [HN.out]
      exact ⟨rfl, S.out.below hbw, fr_bl hbw, hbl⟩
end Go.Proofs.Ytabmhmbmdegoaaa
