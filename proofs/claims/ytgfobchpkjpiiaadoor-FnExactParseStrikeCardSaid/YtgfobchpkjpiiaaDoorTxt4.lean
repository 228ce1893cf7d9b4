/-
  The text of a strike: contracts and the law's walk.
-/
import Derived.Test.YtgfobchpkjpiiaaDoorTxt3
import Derived.Test.YtgfobchpkjpiiaaDoorMa1
namespace Go.Proofs.YtgfobchpkjpiiaaDoor
open Go.RowKit
set_option linter.unusedVariables false
attribute [local go_sem ↓] Go.wp_at_zero Go.wp_at_succ
attribute [local go_sem high] run_cat

def maT (L : List Nat) : Nat → ByteArray
  | 0 => ⟨#[]⟩
  | k + 1 => match L[k]? with
    | some x => if k = 0 then catS (maT L k) (numS x) else catS (catS (maT L k) ⟨#[47]⟩) (numS x)
    | none => maT L k
theorem maT_first {L : List Nat} {x : Nat} (h : L[0]? = some x) : maT L 1 = catS ⟨#[]⟩ (numS x) := by rw [maT, h]; rfl
theorem maT_next {L : List Nat} {k x : Nat} (h : L[k]? = some x) (hk : 0 < k) : maT L (k + 1) = catS (catS (maT L k) ⟨#[47]⟩) (numS x) := by
  rw [maT, h]; exact if_neg (by omega)
theorem maT_size {L : List Nat} (hx : ∀ x ∈ L, x < 1000000000000) : ∀ k, (maT L k).size ≤ 14 * k
  | 0 => by show (0 : Nat) ≤ _; omega
  | k + 1 => by
    have ih := maT_size hx k
    rcases h : L[k]? with _ | x
    · rw [maT, h]; show (maT L k).size ≤ _; omega
    · have hs := numS_size (hx x (List.mem_of_getElem? h))
      have h1 : (⟨#[47]⟩ : ByteArray).size = 1 := rfl
      rcases Nat.eq_zero_or_pos k with h0 | h0
      · subst h0; rw [maT_first h, catS_size]; show 0 + _ ≤ _; omega
      · rw [maT_next h h0, catS_size, catS_size, h1]; omega
theorem jn5 (a b c d f : Nat) : maT [a, b, c, d, f] 5 = jnS [a, b, c, d, f] ⟨#[47]⟩ := by
  apply bytes_ext2
  rw [maT_next (x := f) rfl (by omega), maT_next (x := d) rfl (by omega), maT_next (x := c) rfl (by omega), maT_next (x := b) rfl (by omega), maT_first (x := a) rfl]
  simp only [catS_bytes, numS_bytes]
  rw [jnS_eq]
  simp [Lib.join_cons, Lib.joinTail]
theorem nat5 {d l f r o : Int} (h : strikeB d l f r o = true) : ∃ a b c e g : Nat, d = a ∧ l = b ∧ f = c ∧ r = e ∧ o = g ∧ a ≤ 999 ∧ b ≤ 999 ∧ c ≤ 999 ∧ e ≤ 999 ∧ g ≤ 999 := by
  obtain ⟨⟨_, _⟩, ⟨_, _⟩, ⟨_, _⟩, ⟨_, _⟩, _, _⟩ := strike_iff.1 h
  exact ⟨d.toNat, l.toNat, f.toNat, r.toNat, o.toNat, by omega, by omega, by omega, by omega, by omega, by omega, by omega, by omega, by omega, by omega⟩
set_option maxHeartbeats 2000000 in
theorem maText_any (a b c d f : Nat) (ha : a ≤ 999) (hb : b ≤ 999) (hc : c ≤ 999) (hd : d ≤ 999) (hf : f ≤ 999) (w : World) :
    Calls Tryd.prog 41 #[.agg #[.int .i64 (a : Int), .int .i64 (b : Int), .int .i64 (c : Int), .int .i64 (d : Int), .int .i64 (f : Int)]] w fun e w' => e = .returned (.string (jnS [a, b, c, d, f] ⟨#[47]⟩)) ∧ Below w.heap.size w w' := by
  have HJ := Lib.hid (jn5 a b c d f)
  have HX := Lib.hid (show ∀ x ∈ [a, b, c, d, f], x < 1000000000000 by intro x hx; simp at hx; omega)
  have HSZ := Lib.hid (maT_size HX.out)
  go_enter Tryd.func41, Tryd.ntmps41
  go_wp2_with (go_at_call 73; refine (maParts_any _ _ _ _ _ _).mono ?_; rintro e w' ⟨rfl, rfl⟩)
  obtain ⟨W, hW⟩ : ∃ W, W = ((w.alloc (.cells #[.int .i64 (a : Int), .int .i64 (b : Int), .int .i64 (c : Int), .int .i64 (d : Int), .int .i64 (f : Int)] 32)).alloc (.cells #[.int .i64 (a : Int), .int .i64 (b : Int), .int .i64 (c : Int), .int .i64 (d : Int), .int .i64 (f : Int)] 32)).alloc (.cells #[.int .i64 (a : Int), .int .i64 (b : Int), .int .i64 (c : Int), .int .i64 (d : Int), .int .i64 (f : Int)] 3) := ⟨_, rfl⟩
  have hr : Rd cI 1 W (w.heap.size + 1 + 1 + 1) (some ⟨w.heap.size + 1 + 1, 0, none⟩) 5 (natL [a, b, c, d, f]) := by rw [hW]; exact rd5 _ (a : Int) b c d f _ _ (by simp)
  have hbW : Below w.heap.size w W := by rw [hW]; exact by repeat (first | (with_reducible exact Below.refl _ _) | (with_reducible assumption) | (with_reducible refine bl_alloc ?_ _) | (with_reducible refine bl_drew ?_) | (with_reducible refine bl_drewN ?_ _) | ((with_reducible refine bl_set ?_ ?hb _); (case hb => first | (simp; done) | omega | (simp; omega))) | (with_reducible refine bl_trans ?_ (by assumption)))
  have hsW : W.heap.size = w.heap.size + 1 + 1 + 1 := by rw [hW]; simp
  rw [← hW]
  clear hW
  have HR := Lib.hid hr
  have HBW := Lib.hid hbW
  clear hr hbW
  obtain ⟨L, hL⟩ : ∃ L, L = [a, b, c, d, f] := ⟨_, rfl⟩
  have hLL : L.length = 5 := by rw [hL]; rfl
  rw [← hL] at HJ HX HSZ HR
  have HLE := Lib.hid hL
  clear hL
  go_loopw [3, 9] (fun s i wr => ∃ j : Nat, j ≤ 5 ∧ i = .int .i64 j ∧ s = .string (maT L j) ∧ Below W.heap.size W wr) (fun _ i _ => 5 - (intOf i).toNat)
  case atStart => exact ⟨0, Nat.zero_le _, rfl, rfl, Below.refl _ _⟩
  case round =>
    obtain ⟨j, hj, rfl, rfl, hbj⟩ := hrel
    have BJ := Lib.hid hbj
    have hsz := hbj.size
    have hsj := HSZ.out j
    by_cases hlt : j < 5
    · obtain ⟨bo, offo, x, hA, hbB, hik, hci⟩ := (HR.out.below (hbj.mono (by omega))).atI hlt
      obtain ⟨rfl, rfl⟩ : bo = w.heap.size + 1 + 1 ∧ offo = 0 := by simpa [eq_comm] using hA
      have hik' : ∃ y : Nat, L[j]? = some y ∧ x = (y : Int) := by
        unfold natL at hik
        rw [List.getElem?_map] at hik
        rcases hy : L[j]? with _ | y
        · rw [hy] at hik; cases hik
        · rw [hy] at hik; cases hik; exact ⟨y, rfl, rfl⟩
      obtain ⟨y, hy, rfl⟩ := hik'
      rw [Nat.zero_add] at hci
      have hy12 := HX.out y (List.mem_of_getElem? hy)
      have HI := Lib.hid (fun W => l1Num_any y hy12 W)
      have hsy := numS_size hy12
      have h47 : (⟨#[47]⟩ : ByteArray).size ≤ 1 := by decide
      have hb0 : w.heap.size + 1 + 1 < wr.heap.size := by omega
      clear hbj hik hA
      rcases Nat.eq_zero_or_pos j with h0 | h0
      · subst h0
        have HN := Lib.hid (maT_first hy)
        have f1 : Fit ⟨#[]⟩ (numS y) := fit_of (p := 0) (by decide) hsy (by omega)
        have hst : maT L 0 = ⟨#[]⟩ := rfl
        rw [hst]
        clear hy hst
        go_wp2_with (go_at_call 60; refine (HI.out _).mono ?_; rintro e w3 ⟨rfl, hb⟩; have HB3 := Lib.hid hb; clear hb)
        go_roundw
        case rel => exact ⟨1, by omega, rfl, by rw [HN.out], BJ.out.trans (HB3.out.mono hsz)⟩
        case measure => simp [intOf]
      · have HN := Lib.hid (maT_next hy h0)
        have f1 : Fit (maT L j) ⟨#[47]⟩ := fit_of hsj h47 (by omega)
        have f2 : Fit (catS (maT L j) ⟨#[47]⟩) (numS y) := fit_of (p := 100) (by rw [catS_size]; omega) hsy (by omega)
        clear hy
        go_wp2_with (go_at_call 60; refine (HI.out _).mono ?_; rintro e w3 ⟨rfl, hb⟩; have HB3 := Lib.hid hb; clear hb)
        go_roundw
        case rel => exact ⟨j + 1, by omega, by go_num, by rw [HN.out], BJ.out.trans (HB3.out.mono hsz)⟩
        case measure => simp [intOf]; omega
    · obtain rfl : j = 5 := by omega
      go_wp2
      go_ret
      rw [HJ.out, HLE.out]
      exact ⟨rfl, HBW.out.trans (BJ.out.mono (by omega))⟩
def stS (a b c d f : Int) : ByteArray := if strikeB a b c d f = true then jnS [a.toNat, b.toNat, c.toNat, d.toNat, f.toNat] ⟨#[47]⟩ else ⟨#[]⟩
theorem stS_no {a b c d f : Int} (h : strikeB a b c d f = false) : stS a b c d f = ⟨#[]⟩ := by simp [stS, h]
theorem stS_yes {a b c d f : Nat} (h : strikeB a b c d f = true) : stS a b c d f = jnS [a, b, c, d, f] ⟨#[47]⟩ := by simp [stS, h]
set_option maxHeartbeats 2000000 in
theorem specST_any (a b c d f : Int) (w : World) (hT : Lib.TabIs Tryd.prog w "internal/strconv.uint64pow10" .u64 Lib.pow10Tab) : Calls Tryd.prog 13 #[.agg #[.int .i64 a, .int .i64 b, .int .i64 c, .int .i64 d, .int .i64 f]] w (PairS (stS a b c d f) (strikeB a b c d f) w) := by
  rcases h : strikeB a b c d f with _ | _
  · have HH := Lib.hid h
    have HE := Lib.hid (stS_no h)
    clear h
    go_enter Tryd.func13, Tryd.ntmps13
    go_wp2_with (go_at_call 40; refine (maGood_any _ _ _ _ _ _).mono ?_; rw [HH.out]; rintro e w1 ⟨rfl, hb⟩)
    go_ret2
    exact pair_s HE.out.symm rfl (by repeat (first | (with_reducible exact Below.refl _ _) | (with_reducible assumption) | (with_reducible refine bl_alloc ?_ _) | (with_reducible refine bl_drew ?_) | (with_reducible refine bl_drewN ?_ _) | ((with_reducible refine bl_set ?_ ?hb _); (case hb => first | (simp; done) | omega | (simp; omega))) | (with_reducible refine bl_trans ?_ (by assumption))))
  · obtain ⟨a', b', c', d', f', rfl, rfl, rfl, rfl, rfl, h1, h2, h3, h4, h5⟩ := nat5 h
    have HH := Lib.hid h
    have HE := Lib.hid (stS_yes h)
    clear h
    go_enter Tryd.func13, Tryd.ntmps13
    go_wp2_with fail
    refine (maGood_any _ _ _ _ _ _).mono ?_
    rw [HH.out]
    rintro e w1 ⟨rfl, hb⟩
    obtain ⟨hc0, hf0, hz0⟩ := bl_at hb (k := w.heap.size) (by first | assumption | (simp; done) | (simp; omega))
    have HB1 := Lib.hid (show Below w.heap.size w w1 from by repeat (first | (with_reducible exact Below.refl _ _) | (with_reducible assumption) | (with_reducible refine bl_alloc ?_ _) | (with_reducible refine bl_drew ?_) | (with_reducible refine bl_drewN ?_ _) | ((with_reducible refine bl_set ?_ ?hb _); (case hb => first | (simp; done) | omega | (simp; omega))) | (with_reducible refine bl_trans ?_ (by assumption))))
    clear hb
    go_wp2_with fail
    refine (maText_any a' b' c' d' f' h1 h2 h3 h4 h5 _).mono ?_
    rintro e w2 ⟨rfl, hb⟩
    have HB2 := Lib.hid (bl_trans HB1.out hb)
    clear hb
    go_wp2
    go_ret2
    exact pair_s HE.out.symm rfl HB2.out
set_option maxHeartbeats 2000000 in
theorem implST_any (a b c d f : Int) (w : World) (hT : Lib.TabIs Tryd.prog w "internal/strconv.uint64pow10" .u64 Lib.pow10Tab) : Calls Tryd.prog 15 #[.agg #[.int .i64 a, .int .i64 b, .int .i64 c, .int .i64 d, .int .i64 f]] w (PairS (stS a b c d f) (strikeB a b c d f) w) := by
  have HT := Lib.hid hT
  clear hT
  rcases h : strikeB a b c d f with _ | _
  · have HH := Lib.hid h
    have HE := Lib.hid (stS_no h)
    clear h
    go_enter Tryd.func15, Tryd.ntmps15
    go_wp2_with (go_at_call 42; refine (implIsStrike_any _ _ _ _ _ _).mono ?_; rw [HH.out]; rintro e w1 ⟨rfl, hb⟩)
    go_ret2
    exact pair_s HE.out.symm rfl (by repeat (first | (with_reducible exact Below.refl _ _) | (with_reducible assumption) | (with_reducible refine bl_alloc ?_ _) | (with_reducible refine bl_drew ?_) | (with_reducible refine bl_drewN ?_ _) | ((with_reducible refine bl_set ?_ ?hb _); (case hb => first | (simp; done) | omega | (simp; omega))) | (with_reducible refine bl_trans ?_ (by assumption))))
  · obtain ⟨a', b', c', d', f', rfl, rfl, rfl, rfl, rfl, h1, h2, h3, h4, h5⟩ := nat5 h
    have HH := Lib.hid h
    have HE := Lib.hid (stS_yes h)
    clear h
    go_enter Tryd.func15, Tryd.ntmps15
    go_wp2_with fail
    refine (implIsStrike_any _ _ _ _ _ _).mono ?_
    rw [HH.out]
    rintro e w1 ⟨rfl, hb⟩
    obtain ⟨hc0, hf0, hz0⟩ := bl_at hb (k := w.heap.size) (by first | assumption | (simp; done) | (simp; omega))
    have HB1 := Lib.hid (show Below w.heap.size w w1 from by repeat (first | (with_reducible exact Below.refl _ _) | (with_reducible assumption) | (with_reducible refine bl_alloc ?_ _) | (with_reducible refine bl_drew ?_) | (with_reducible refine bl_drewN ?_ _) | ((with_reducible refine bl_set ?_ ?hb _); (case hb => first | (simp; done) | omega | (simp; omega))) | (with_reducible refine bl_trans ?_ (by assumption))))
    clear hb
    go_wp2_with fail
    refine (parts_any _ _ _ _ _ _).mono ?_
    rintro e w2 ⟨rfl, rfl⟩
    go_wp2_with fail
    have hr := rd5 (w1.alloc (.cells #[.int .i64 (a' : Int), .int .i64 (b' : Int), .int .i64 (c' : Int), .int .i64 (d' : Int), .int .i64 (f' : Int)] 32)) (a' : Int) b' c' d' f' 3 (w1.heap.size + 1) (by simp)
    refine (join_any _ 5 5 [a', b', c', d', f'] ⟨#[47]⟩ _ (hr.more (by simp)) (by omega) (by omega) (by intro x hx; simp at hx; omega) (by decide) (tab_below HT.out (bl_alloc (bl_alloc HB1.out _) _))).mono ?_
    rintro e w3 ⟨rfl, hb⟩
    have HB3 := Lib.hid (bl_trans (bl_alloc (bl_alloc HB1.out _) _) hb)
    clear hb hr
    go_wp2
    go_ret2
    exact pair_s HE.out.symm rfl HB3.out
set_option maxHeartbeats 2000000 in
theorem lawStrikeText (a b c d f : Int) (w : World) (_ : I64 a) (_ : I64 b) (_ : I64 c) (_ : I64 d) (_ : I64 f) (hT : Lib.TabIs Tryd.prog w "internal/strconv.uint64pow10" .u64 Lib.pow10Tab) : Calls Tryd.prog 4 #[.agg #[.int .i64 a, .int .i64 b, .int .i64 c, .int .i64 d, .int .i64 f]] w fun e w' => e = .returned (.bool (true)) ∧ Below w.heap.size w w' := by
  have HT := Lib.hid hT
  have H1 := Lib.hid (fun W h => specST_any a b c d f W h)
  have H2 := Lib.hid (fun W h => implST_any a b c d f W h)
  obtain ⟨s, hs⟩ : ∃ s, stS a b c d f = s := ⟨_, rfl⟩
  obtain ⟨v, hv⟩ : ∃ v, strikeB a b c d f = v := ⟨_, rfl⟩
  rw [hs, hv] at H1 H2
  clear hT hs hv
  go_enter Tryd.func4, Tryd.ntmps4
  go_wp2_with fail
  refine (toStrike_any _ _ _ _ _ _).mono ?_
  rintro e w1 ⟨rfl, hb⟩
  obtain ⟨hc0, hf0, hz0⟩ := bl_at hb (k := w.heap.size) (by first | assumption | (simp; done) | (simp; omega))
  have HB1 := Lib.hid (show Below w.heap.size w w1 from by repeat (first | (with_reducible exact Below.refl _ _) | (with_reducible assumption) | (with_reducible refine bl_alloc ?_ _) | (with_reducible refine bl_drew ?_) | (with_reducible refine bl_drewN ?_ _) | ((with_reducible refine bl_set ?_ ?hb _); (case hb => first | (simp; done) | omega | (simp; omega))) | (with_reducible refine bl_trans ?_ (by assumption))))
  clear hb
  go_wp2_with fail
  refine (H1.out _ (tab_below HT.out HB1.out)).mono ?_
  rintro e w2 ⟨rfl, hb⟩
  obtain ⟨hc0, hf0, hz0⟩ := bl_at hb (k := w.heap.size) (by first | assumption | (simp; done) | (simp; omega))
  have HB2 := Lib.hid (bl_trans HB1.out hb)
  clear hb
  go_wp2_with fail
  refine (toStrike_any _ _ _ _ _ _).mono ?_
  rintro e w3 ⟨rfl, hb⟩
  have HB3 := Lib.hid (bl_trans HB2.out hb)
  clear hb
  go_wp2_with fail
  refine (H2.out _ (tab_below HT.out HB3.out)).mono ?_
  rintro e w4 ⟨rfl, hb⟩
  have HB4 := Lib.hid (bl_trans HB3.out hb)
  clear hb
  rcases v with _ | _
  · go_wp2
    go_ret
    exact ⟨rfl, HB4.out⟩
  · go_wp2
    go_ret
    exact ⟨rfl, HB4.out⟩
end Go.Proofs.YtgfobchpkjpiiaaDoor
