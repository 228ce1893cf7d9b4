/-
  HandWay: contracts and the law's walk.
-/
import Derived.Test.YtjeehkiebalbmaaCa5
namespace Go.Proofs.Ytjeehkiebalbmaa
open Go.RowKit
set_option linter.unusedVariables false
attribute [local go_sem ↓] Go.wp_at_zero Go.wp_at_succ

/-- a case and codes, as they lie in memory -/
def Hand (w : World) (A A' : Option Addr) (n n' c : Nat) (xs : List Box) (cs : List ByteArray) : Prop :=
  Rd cBox 4 w w.heap.size A n xs ∧ Rd cS 1 w w.heap.size A' n' cs ∧ n ≤ 1048576 ∧ n' ≤ 1048576 ∧ (∀ x ∈ xs, okBox x) ∧ n ≤ c
theorem Hand.below {w w' : World} {A A' : Option Addr} {n n' c : Nat} {xs : List Box} {cs : List ByteArray} (h : Hand w A A' n n' c xs cs) (hb : Below w.heap.size w w') : Hand w' A A' n n' c xs cs :=
  ⟨(h.1.below hb).more hb.size, (h.2.1.below hb).more hb.size, h.2.2⟩
theorem ask_way {xs : List Box} {cs : List ByteArray} (h : askB xs cs = true) : WayArg xs cs := by
  unfold askB at h
  simp only [Bool.and_eq_true] at h
  obtain ⟨h1, h2, h3⟩ := h
  refine ⟨fun x hx => ?_, fun s hs => ?_, by simpa using h3⟩
  · obtain ⟨k, hk⟩ := List.mem_iff_getElem?.1 hx
    exact (case_each h2 hk).1
  · have := List.all_eq_true.1 h1 s hs
    simpa [hasB] using this
set_option maxHeartbeats 1000000 in
theorem specHW_any (A A' : Option Addr) (n n' c c' : Nat) (xs : List Box) (cs : List ByteArray) (w : World) (hh : Hand w A A' n n' c xs cs) :
    Calls Try.prog 26 #[.slice A n c, .slice A' n' c'] w (PairB (oV (askB xs cs) (wayTo xs cs cs.length).sum) (askB xs cs) w) := by
  obtain ⟨h1, h2, h3, h4, h5, h6⟩ := hh
  have HA := Lib.hid (caAsked_any A n c xs A' n' c' cs w h1 h2 h3 h4 h5 h6)
  clear h5
  rcases hB : askB xs cs with _ | _
  · rw [hB] at HA
    go_enter Try.func26, Try.ntmps26
    go_wp2_with fail
    refine HA.out.mono ?_
    rintro e w1 ⟨rfl, hb⟩
    go_wp2
    go_ret2
    exact pair_b rfl rfl (by repeat (first | (with_reducible exact Below.refl _ _) | (with_reducible assumption) | (with_reducible refine bl_alloc ?_ _) | (with_reducible refine bl_drew ?_) | (with_reducible refine bl_drewN ?_ _) | ((with_reducible refine bl_set ?_ ?hb _); (case hb => first | (simp; done) | omega | (simp; omega))) | (with_reducible refine bl_trans ?_ (by assumption))))
  · have HW := Lib.hid (ask_way hB)
    rw [hB] at HA
    clear hB
    go_enter Try.func26, Try.ntmps26
    go_wp2_with fail
    refine HA.out.mono ?_
    rintro e w1 ⟨rfl, hb⟩
    go_wp2_with fail
    refine (caWay_any _ _ _ xs _ _ _ cs _ ((h1.below hb).more hb.size) ((h2.below hb).more hb.size) h3 HW.out).mono ?_
    rintro e w2 ⟨rfl, hb2⟩
    go_wp2
    go_ret2
    exact pair_b rfl rfl (by repeat (first | (with_reducible exact Below.refl _ _) | (with_reducible assumption) | (with_reducible refine bl_alloc ?_ _) | (with_reducible refine bl_drew ?_) | (with_reducible refine bl_drewN ?_ _) | ((with_reducible refine bl_set ?_ ?hb _); (case hb => first | (simp; done) | omega | (simp; omega))) | (with_reducible refine bl_trans ?_ (by assumption))))
set_option maxHeartbeats 1000000 in
theorem implHW_any (A A' : Option Addr) (n n' c c' : Nat) (xs : List Box) (cs : List ByteArray) (w : World) (hh : Hand w A A' n n' c xs cs) :
    Calls Try.prog 28 #[.slice A n c, .slice A' n' c'] w (PairB (oV (askB xs cs) (wayTo xs cs cs.length).sum) (askB xs cs) w) := by
  obtain ⟨h1, h2, h3, h4, h5, h6⟩ := hh
  have HA := Lib.hid (areCodes_any A n c xs A' n' c' cs w h1 h2 h3 h4 h5 h6)
  clear h5
  rcases hB : askB xs cs with _ | _
  · rw [hB] at HA
    go_enter Try.func28, Try.ntmps28
    go_wp2_with fail
    refine HA.out.mono ?_
    rintro e w1 ⟨rfl, hb⟩
    go_wp2
    go_ret2
    exact pair_b rfl rfl (by repeat (first | (with_reducible exact Below.refl _ _) | (with_reducible assumption) | (with_reducible refine bl_alloc ?_ _) | (with_reducible refine bl_drew ?_) | (with_reducible refine bl_drewN ?_ _) | ((with_reducible refine bl_set ?_ ?hb _); (case hb => first | (simp; done) | omega | (simp; omega))) | (with_reducible refine bl_trans ?_ (by assumption))))
  · have HW := Lib.hid (ask_way hB)
    rw [hB] at HA
    clear hB
    go_enter Try.func28, Try.ntmps28
    go_wp2_with fail
    refine HA.out.mono ?_
    rintro e w1 ⟨rfl, hb⟩
    go_wp2_with fail
    refine (handWay_any _ _ _ xs _ _ _ cs _ ((h1.below hb).more hb.size) ((h2.below hb).more hb.size) h3 HW.out).mono ?_
    rintro e w2 ⟨rfl, hb2⟩
    go_wp2
    go_ret2
    exact pair_b rfl rfl (by repeat (first | (with_reducible exact Below.refl _ _) | (with_reducible assumption) | (with_reducible refine bl_alloc ?_ _) | (with_reducible refine bl_drew ?_) | (with_reducible refine bl_drewN ?_ _) | ((with_reducible refine bl_set ?_ ?hb _); (case hb => first | (simp; done) | omega | (simp; omega))) | (with_reducible refine bl_trans ?_ (by assumption))))
set_option maxHeartbeats 2000000 in
theorem lawHandWay (A : Option Addr) (n c : Nat) (xs : List Box) (A' : Option Addr) (n' c' : Nat) (cs : List ByteArray) (w : World) (hr : Rd cBox 4 w w.heap.size A n xs) (hn : n ≤ maxLen) (hok : ∀ x ∈ xs, okBox x) (hrs : Rd cS 1 w w.heap.size A' n' cs) (hnn : n' ≤ maxLen) (hoks : ∀ x ∈ cs, x.size ≤ maxLen) : Calls Try.prog 8 #[.slice A n c, .slice A' n' c'] w fun e w' => e = .returned (.bool (true)) ∧ Below w.heap.size w w' := by
  have hn' := hn
  unfold maxLen at hn'
  have hnn' := hnn
  unfold maxLen at hnn'
  have HN := Lib.hid hn
  have HNN := Lib.hid hnn
  have HOK := Lib.hid hok
  have HS := Lib.hid (szBoxS_any A n c _ xs 1048576 w hr (Nat.le_refl _) hn hok (by omega) (by omega))
  have HSS := Lib.hid (fun (l : Int) (W : World) (h : Below w.heap.size w W) h0 h1 => szStringS_any A' n' c' _ cs l W (hrs.below h) hnn hoks h0 h1)
  clear hn hok hnn hoks
  go_enter Try.func8, Try.ntmps8
  go_wp2_with fail
  refine HS.out.mono ?_
  rintro e w0 ⟨r, rfl, hsz, hb0⟩
  have HSZ := Lib.hid hsz
  have HB0 := Lib.hid hb0
  clear hsz hb0
  by_cases hneg : r < 0
  · go_wp2_with fail
    go_ret
    exact ⟨rfl, HB0.out⟩
  have hn2 : n ≤ 1048576 := by
    rcases HSZ.out with h | h <;> omega
  have hr1 : r ≤ 1048576 := by
    rcases HSZ.out with h | h <;> omega
  go_wp2_with fail
  refine (HSS.out r _ HB0.out (by omega) hr1).mono ?_
  rintro e w00 ⟨r2, rfl, hsz2, rfl⟩
  have HSZ2 := Lib.hid hsz2
  clear hsz2
  by_cases hneg2 : r2 < 0
  · go_wp2_with fail
    go_ret
    exact ⟨rfl, HB0.out⟩
  have hn3 : n' ≤ 1048576 := by
    rcases HSZ2.out with h | h <;> omega
  have HT := Lib.hid (fun (W : World) (h : Below w.heap.size w W) => toBoxS_cap A n c _ xs W (hr.below h) h.size hn2)
  have HI := Lib.hid (fun (W : World) (h : Below w.heap.size w W) => toStringS_cap A' n' c' _ cs W (hrs.below h) h.size hn3)
  go_wp2_with fail
  refine (HT.out _ HB0.out).mono ?_
  rintro e w1 ⟨A1, rfl, h1, hb⟩
  have HB1 := Lib.hid (bl_trans HB0.out hb)
  clear hb
  go_wp2_with fail
  refine (HI.out _ HB1.out).mono ?_
  rintro e w2 ⟨A2, rfl, h2, hb⟩
  have HB2 := Lib.hid (bl_trans HB1.out hb)
  have HO2 := Lib.hid (show Hand w2 A1 A2 n n' n xs cs from ⟨(h1.below hb).rd, h2.rd, hn2, hn3, HOK.out, Nat.le_refl _⟩)
  clear hb h1 h2
  go_wp2_with fail
  refine (specHW_any _ _ _ _ _ _ xs cs _ HO2.out).mono ?_
  rintro e w3 ⟨rfl, hb⟩
  have HB3 := Lib.hid (bl_trans HB2.out hb)
  clear hb
  go_wp2_with fail
  refine (HT.out _ HB3.out).mono ?_
  rintro e w4 ⟨A4, rfl, h4, hb⟩
  have HB4 := Lib.hid (bl_trans HB3.out hb)
  clear hb
  go_wp2_with fail
  refine (HI.out _ HB4.out).mono ?_
  rintro e w5 ⟨A5, rfl, h5, hb⟩
  have HB5 := Lib.hid (bl_trans HB4.out hb)
  have HO5 := Lib.hid (show Hand w5 A4 A5 n n' n xs cs from ⟨(h4.below hb).rd, h5.rd, hn2, hn3, HOK.out, Nat.le_refl _⟩)
  have H4 := Lib.hid (h4.below hb)
  have H5 := Lib.hid h5
  clear hb h4 h5
  go_wp2_with fail
  refine (implHW_any _ _ _ _ _ _ xs cs _ HO5.out).mono ?_
  rintro e w6 ⟨rfl, hb⟩
  have HB6 := Lib.hid (bl_trans HB5.out hb)
  have H46 := Lib.hid (H4.out.below hb)
  have H56 := Lib.hid (H5.out.below hb)
  clear hb
  go_wp2_with fail
  refine (HT.out _ HB6.out).mono ?_
  rintro e w7 ⟨A7, rfl, h7, hb⟩
  have HB7 := Lib.hid (bl_trans HB6.out hb)
  have H47 := Lib.hid (H46.out.below hb)
  have H57 := Lib.hid (H56.out.below hb)
  clear hb
  go_wp2_with fail
  refine (eqBoxS_same _ _ _ _ _ _ _ xs _ H47.out.rd h7.rd (Nat.le_refl _) (Nat.le_refl _) HN.out).mono ?_
  rintro e w8 ⟨rfl, hb⟩
  have HB8 := Lib.hid (bl_trans HB7.out hb)
  have H58 := Lib.hid (H57.out.below hb)
  clear hb h7
  go_wp2_with fail
  refine (HI.out _ HB8.out).mono ?_
  rintro e w9 ⟨A9, rfl, h9, hb⟩
  have HB9 := Lib.hid (bl_trans HB8.out hb)
  have H59 := Lib.hid (H58.out.below hb)
  clear hb
  go_wp2_with fail
  refine (eqStringS_same _ _ _ _ _ _ _ cs _ H59.out.rd h9.rd HNN.out).mono ?_
  rintro e w10 ⟨rfl, mm, rfl⟩
  go_wp2
  go_ret
  exact ⟨rfl, bl_drewN HB9.out mm⟩
end Go.Proofs.Ytjeehkiebalbmaa
