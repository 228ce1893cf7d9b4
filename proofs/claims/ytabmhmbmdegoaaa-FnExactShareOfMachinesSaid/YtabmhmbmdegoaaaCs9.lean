/-
  MostCastings: the closure, and how eachOrder calls it.
-/
import Derived.Test.YtabmhmbmdegoaaaCs8
import Derived.Deep.RegionHeld3
namespace Go.Proofs.Ytabmhmbmdegoaaa
open Go.RowKit
set_option linter.unusedVariables false
attribute [local go_sem ↓] Go.wp_at_zero Go.wp_at_succ

theorem take_of {P : Program} {md : Region.Mode} {ops : Array Oper} {Q : Exit → Act → World → Prop} {S : World → Prop} (d : Option Tmp) {i : Nat} {oi : Oper} {v : Value} {fuel : Nat} {listed : Array Bool} {a : Act} {w : World} (hi : ops[i]? = some oi) (hd : oi.dst = d)
    (hs : Region.noSelect ops = true) (hf : Region.free md ops listed i = true) (hr : (Region.ready md ops listed).contains i = true)
    (hQ : ∀ c a w, Q (.panic c) (a.put d v) w → Q (.panic c) a w) (hy : YieldsIf P ops S oi v a) (hS : S w)
    (h : wpAnyH P md ops Q S fuel (listed.setIfInBounds i true) (a.put d v) w) : wpAnyH P md ops Q S (fuel + 1) listed a w := by
  subst hd
  exact wpAnyH_take hi hs hf hr hQ hy hS h
theorem ordB_of {a h c : Int} {xs : List Cst} {L : List Int} (hm : machB a h c = true) (hx : castsB xs = true) (hd : diffB L (xs.length : Int) = true) : ordB a h c xs L = true := by
  unfold ordB; rw [hm, hx, hd]; rfl
def tmV (a h c : Int) (xs : List Cst) (L : List Int) : Int := (csTo h c xs L a L.length).t
def moStep (a h c : Int) (xs : List Cst) (mins : Int) (best L : List Int) : List Int := if best.length < L.length ∧ tmV a h c xs L ≤ mins then L else best
/-- what the closure of MostCastings has captured -/
structure StM (w : World) (pb pm pl pn : Nat) (a h c : Int) (A : Option Addr) (n cp : Nat) (xs : List Cst) (mins : Int) (best : List Int) : Prop where
  lt : pb < w.heap.size
  hm : pm < pb
  hl : pl < pb
  hn : pn < pb
  c0 : w.cell? ⟨pm, 0, none⟩ = some (.int .i64 a)
  c1 : w.cell? ⟨pm, 1, none⟩ = some (.int .i64 h)
  c2 : w.cell? ⟨pm, 2, none⟩ = some (.int .i64 c)
  c3 : w.cell? ⟨pl, 0, none⟩ = some (.slice A n cp)
  c4 : w.cell? ⟨pn, 0, none⟩ = some (.int .i64 mins)
  fr : w.frozen? ⟨pb, 0, none⟩ = false
  rd : Rd cCst 2 w pb A n xs
  b : ∃ A' c', w.cell? ⟨pb, 0, none⟩ = some (.slice A' best.length c') ∧ Wr w (pb + 1) A' best.length best
theorem StM.below {w w' : World} {pb pm pl pn : Nat} {a h c : Int} {A : Option Addr} {n cp : Nat} {xs : List Cst} {mins : Int} {best : List Int} (s : StM w pb pm pl pn a h c A n cp xs mins best) (hb : Below w.heap.size w w') : StM w' pb pm pl pn a h c A n cp xs mins best := by
  have h1 := s.lt; have h2 := s.hm; have h3 := s.hl; have h4 := s.hn
  refine ⟨Nat.lt_of_lt_of_le s.lt hb.size, s.hm, s.hl, s.hn, ?_, ?_, ?_, ?_, ?_, ?_, s.rd.below (hb.mono (by omega)), ?_⟩
  · exact (hb.cell (p := ⟨pm, 0, none⟩) (by show pm < _; omega)).trans s.c0
  · exact (hb.cell (p := ⟨pm, 1, none⟩) (by show pm < _; omega)).trans s.c1
  · exact (hb.cell (p := ⟨pm, 2, none⟩) (by show pm < _; omega)).trans s.c2
  · exact (hb.cell (p := ⟨pl, 0, none⟩) (by show pl < _; omega)).trans s.c3
  · exact (hb.cell (p := ⟨pn, 0, none⟩) (by show pn < _; omega)).trans s.c4
  · exact (hb.frozen (p := ⟨pb, 0, none⟩) (by show pb < _; omega)).trans s.fr
  · obtain ⟨A', c', e1, e2⟩ := s.b
    exact ⟨A', c', (hb.cell (p := ⟨pb, 0, none⟩) (by show pb < _; omega)).trans e1, e2.below hb⟩
theorem wr_otherV {w : World} {base : Nat} {A : Option Addr} {n : Nat} {xs : List Int} (h : Wr w base A n xs) {g : Nat} (hg : g < base) (o : Nat) (v : Value) : Wr (w.setCell ⟨g, o, none⟩ v) base A n xs :=
  wr_row h (gr_set (gr_refl w (some g)) o v) (fun k hk => by cases hk; exact hg)
theorem StM.store {w : World} {pb pm pl pn : Nat} {a h c : Int} {A : Option Addr} {n cp : Nat} {xs : List Cst} {mins : Int} {best : List Int} (s : StM w pb pm pl pn a h c A n cp xs mins best) {A1 : Option Addr} {k c1 : Nat} {L : List Int} (hk : L.length = k) (hw : Wr w (pb + 1) A1 k L) : StM (w.setCell ⟨pb, 0, none⟩ (.slice A1 k c1)) pb pm pl pn a h c A n cp xs mins L := by
  have h1 := s.lt; have h2 := s.hm; have h3 := s.hl; have h4 := s.hn
  obtain ⟨A', c', e1, e2⟩ := s.b
  subst hk
  refine ⟨by simpa [World.setCell] using s.lt, s.hm, s.hl, s.hn, ?_, ?_, ?_, ?_, ?_, ?_, ?_, A1, c1, World.cell?_setCell_same _ _ _ e1, wr_otherV hw (by omega) _ _⟩
  · rw [World.cell?_setCell_other _ _ _ _ (by first | (simp; done) | (simp; omega))]; exact s.c0
  · rw [World.cell?_setCell_other _ _ _ _ (by first | (simp; done) | (simp; omega))]; exact s.c1
  · rw [World.cell?_setCell_other _ _ _ _ (by first | (simp; done) | (simp; omega))]; exact s.c2
  · rw [World.cell?_setCell_other _ _ _ _ (by first | (simp; done) | (simp; omega))]; exact s.c3
  · rw [World.cell?_setCell_other _ _ _ _ (by first | (simp; done) | (simp; omega))]; exact s.c4
  · rw [World.frozen?_setCell]; exact s.fr
  · exact s.rd.keep fun b o hb => World.cell?_setCell_other _ _ _ _ (by first | (simp; done) | (simp; omega))
theorem gr_trans {w w' w'' : World} {r : Option Nat} (h : w.grownBy w' r) (h' : w'.grownBy w'' r) : w.grownBy w'' r :=
  ⟨h'.os.trans h.os, h'.tape.trans h.tape, h'.output.trans h.output, Nat.le_trans h.size h'.size, fun k hk hn => (h'.block k (Nat.lt_of_lt_of_le hk h.size) hn).trans (h.block k hk hn)⟩
theorem moStep_no {a h c : Int} {xs : List Cst} {mins : Int} {best L : List Int} (hh : ¬ best.length < L.length ∨ ¬ tmV a h c xs L ≤ mins) : moStep a h c xs mins best L = best := by
  unfold moStep
  rw [if_neg]
  rintro ⟨h1, h2⟩
  rcases hh with h3 | h3
  · exact h3 h1
  · exact h3 h2
theorem moStep_yes {a h c : Int} {xs : List Cst} {mins : Int} {best L : List Int} (h1 : best.length < L.length) (h2 : tmV a h c xs L ≤ mins) : moStep a h c xs mins best L = L := by
  unfold moStep; rw [if_pos ⟨h1, h2⟩]
/-- what the closure returns -/
def CloM (w : World) (pb pm pl pn : Nat) (a h c : Int) (A : Option Addr) (n cp : Nat) (xs : List Cst) (mins : Int) (best : List Int) (e : Ending) (w' : World) : Prop :=
  e = .returned (.tuple #[]) ∧ StM w' pb pm pl pn a h c A n cp xs mins best ∧ w.grownBy w' (some pb) ∧ best.length ≤ 8
set_option maxHeartbeats 2000000 in
theorem most1_any (pb pm pl pn : Nat) (a h c : Int) (A : Option Addr) (n cp : Nat) (xs : List Cst) (mins : Int) (best : List Int) (A1 : Option Addr) (k k1 : Nat) (L : List Int) (w : World)
    (s : StM w pb pm pl pn a h c A n cp xs mins best) (hw : Wr w (pb + 1) A1 k L) (hk1 : k ≤ k1) (hn : n ≤ 8) (hm : machB a h c = true) (hx : castsB xs = true) (hd : diffB L (xs.length : Int) = true) (hbl : best.length ≤ 8) :
    Calls Try.prog 66 #[.slice A1 k k1, .pointer (some ⟨pb, 0, none⟩), .pointer (some ⟨pm, 0, none⟩), .pointer (some ⟨pl, 0, none⟩), .pointer (some ⟨pn, 0, none⟩)] w
      (CloM w pb pm pl pn a h c A n cp xs mins (moStep a h c xs mins best L)) := by
  have S := Lib.hid s
  have HW := Lib.hid hw
  have hl := hw.1
  have hxl := s.rd.1
  have hL8 : L.length ≤ 8 := by have := diff_len hd; omega
  have HT := Lib.hid (fun (W : World) (hb : Below w.heap.size w W) => implTime_any a h c A A1 n cp k k1 xs L W ⟨(s.below hb).rd.more (Nat.le_of_lt (s.below hb).lt), (hw.below hb).rd, by omega, by omega, hk1⟩ (ordB_of hm hx hd))
  obtain ⟨A', c', e1, e2⟩ := s.b
  have c0 := s.c0; have c1 := s.c1; have c2 := s.c2; have c3 := s.c3; have c4 := s.c4; have fr := s.fr
  have h1 := s.lt; have h2 := s.hm; have h3 := s.hl; have h4 := s.hn
  clear s hw e2
  by_cases hlt : best.length < k
  · have hd1 : decide ((best.length : Int) < (k : Int)) = true := decide_eq_true (by omega)
    obtain ⟨t, ht⟩ : ∃ t, (csTo h c xs L a L.length).t = t := ⟨_, rfl⟩
    rw [ht] at HT
    have HTV := Lib.hid (show tmV a h c xs L = t from ht)
    clear ht
    by_cases hle : t ≤ mins
    · have HN := Lib.hid (moStep_yes (a := a) (h := h) (c := c) (xs := xs) (mins := mins) (best := best) (L := L) (by omega) (by rw [HTV.out]; exact hle))
      have hd2 : decide (t ≤ mins) = true := decide_eq_true hle
      go_enter Try.func66, Try.ntmps66
      go_wp2_with fail
      refine wp_region_noPanic ?_
      refine wp_region_held_drew (S := (fun w' => w'.cell? ⟨pb, 0, none⟩ = some (.slice A' best.length c') ∧ w'.cell? ⟨pm, 0, none⟩ = some (.int .i64 a) ∧ w'.cell? ⟨pm, 1, none⟩ = some (.int .i64 h) ∧ w'.cell? ⟨pm, 2, none⟩ = some (.int .i64 c) ∧ w'.cell? ⟨pl, 0, none⟩ = some (.slice A n cp) ∧ w'.cell? ⟨pn, 0, none⟩ = some (.int .i64 mins))) (by kernel_rfl) (by (try dsimp only); go_keep) (fun hHeld => ?_)
      refine take_of (some 6) (i := 0) (v := ?vq1_0) rfl rfl (by kernel_rfl) (by kernel_rfl) (by kernel_rfl) (fun _ _ _ h => h) (Or.inl ⟨by rfl, ?hyq1_0⟩) (by assumption) ?restq1_0
      case hyq1_0 => (intro w hSw; (try dsimp only at hSw); go_simp; try with_reducible rfl)
      try simp only [Act.put, List.setIfInBounds_toArray, List.set_cons_zero, List.set_cons_succ]
      refine take_of (some 7) (i := 1) (v := ?vq1_1) rfl rfl (by kernel_rfl) (by kernel_rfl) (by kernel_rfl) (fun _ _ _ h => h) (Or.inl ⟨by rfl, ?hyq1_1⟩) (by assumption) ?restq1_1
      case hyq1_1 => (intro w hSw; (try dsimp only at hSw); go_simp; try with_reducible rfl)
      try simp only [Act.put, List.setIfInBounds_toArray, List.set_cons_zero, List.set_cons_succ]
      refine take_of (some 8) (i := 2) (v := ?vq1_2) rfl rfl (by kernel_rfl) (by kernel_rfl) (by kernel_rfl) (fun _ _ _ h => h) (Or.inl ⟨by rfl, ?hyq1_2⟩) (by assumption) ?restq1_2
      case hyq1_2 => (intro w hSw; (try dsimp only at hSw); go_simp; try with_reducible rfl)
      try simp only [Act.put, List.setIfInBounds_toArray, List.set_cons_zero, List.set_cons_succ]
      refine take_of (some 9) (i := 3) (v := ?vq1_3) rfl rfl (by kernel_rfl) (by kernel_rfl) (by kernel_rfl) (fun _ _ _ h => h) (Or.inl ⟨by rfl, ?hyq1_3⟩) (by assumption) ?restq1_3
      case hyq1_3 => (intro w hSw; (try dsimp only at hSw); go_simp; try with_reducible rfl)
      try simp only [Act.put, List.setIfInBounds_toArray, List.set_cons_zero, List.set_cons_succ]
      refine take_of (some 10) (i := 4) (v := ?vq1_4) rfl rfl (by kernel_rfl) (by kernel_rfl) (by kernel_rfl) (fun _ _ _ h => h) (Or.inl ⟨by rfl, ?hyq1_4⟩) (by assumption) ?restq1_4
      case hyq1_4 => (intro w hSw; (try dsimp only at hSw); go_simp; try with_reducible rfl)
      try simp only [Act.put, List.setIfInBounds_toArray, List.set_cons_zero, List.set_cons_succ]
      refine take_of (some 11) (i := 5) (v := ?vq1_5) rfl rfl (by kernel_rfl) (by kernel_rfl) (by kernel_rfl) (fun _ _ _ h => h) (Or.inl ⟨by rfl, ?hyq1_5⟩) (by assumption) ?restq1_5
      case hyq1_5 => (intro w hSw; (try dsimp only at hSw); go_simp; try with_reducible rfl)
      try simp only [Act.put, List.setIfInBounds_toArray, List.set_cons_zero, List.set_cons_succ]
      refine take_of (some 12) (i := 6) (v := ?vq1_6) rfl rfl (by kernel_rfl) (by kernel_rfl) (by kernel_rfl) (fun _ _ _ h => h) (Or.inl ⟨by rfl, ?hyq1_6⟩) (by assumption) ?restq1_6
      case hyq1_6 => (intro w hSw; (try dsimp only at hSw); go_simp; try with_reducible rfl)
      try simp only [Act.put, List.setIfInBounds_toArray, List.set_cons_zero, List.set_cons_succ]
      refine take_of (some 13) (i := 7) (v := ?vq1_7) rfl rfl (by kernel_rfl) (by kernel_rfl) (by kernel_rfl) (fun _ _ _ h => h) (Or.inl ⟨by rfl, ?hyq1_7⟩) (by assumption) ?restq1_7
      case hyq1_7 => (intro w hSw; (try dsimp only at hSw); go_simp; try with_reducible rfl)
      try simp only [Act.put, List.setIfInBounds_toArray, List.set_cons_zero, List.set_cons_succ]
      refine take_of (some 14) (i := 8) (v := ?vq1_8) rfl rfl (by kernel_rfl) (by kernel_rfl) (by kernel_rfl) (fun _ _ _ h => h) (Or.inl ⟨by rfl, ?hyq1_8⟩) (by assumption) ?restq1_8
      case hyq1_8 => (intro w hSw; (try dsimp only at hSw); go_simp; try with_reducible rfl)
      try simp only [Act.put, List.setIfInBounds_toArray, List.set_cons_zero, List.set_cons_succ]
      refine take_of (some 16) (i := 10) (v := ?vq1_10) rfl rfl (by kernel_rfl) (by kernel_rfl) (by kernel_rfl) (fun _ _ _ h => h) (Or.inl ⟨by rfl, ?hyq1_10⟩) (by assumption) ?restq1_10
      case hyq1_10 => (intro w hSw; (try dsimp only at hSw); go_simp; try with_reducible rfl)
      try simp only [Act.put, List.setIfInBounds_toArray, List.set_cons_zero, List.set_cons_succ]
      refine wpAnyH_ready (rs := [9]) (by kernel_rfl) (by simp) ?_
      refine AllReadyH.cons rfl (fun K hK => ?_) AllReadyH.nil
      go_simp
      (go_at_call 61; refine (HT.out _ ?hq1).mono ?_; (case hq1 => exact by repeat (first | (with_reducible exact Below.refl _ _) | (with_reducible assumption) | (with_reducible refine bl_alloc ?_ _) | (with_reducible refine bl_drew ?_) | (with_reducible refine bl_drewN ?_ _) | ((with_reducible refine bl_set ?_ ?hb _); (case hb => first | (simp; done) | omega | (simp; omega))) | (with_reducible refine bl_trans ?_ (by assumption)))); rintro e w' ⟨rfl, hb⟩; obtain ⟨hc1, hf1, hz1⟩ := bl_at hb (k := pb) (by first | assumption | (simp; done) | (simp; omega)); obtain ⟨hc2, hf2, hz2⟩ := bl_at hb (k := pm) (by first | assumption | (simp; done) | (simp; omega)); obtain ⟨hc3, hf3, hz3⟩ := bl_at hb (k := pl) (by first | assumption | (simp; done) | (simp; omega)); obtain ⟨hc4, hf4, hz4⟩ := bl_at hb (k := pn) (by first | assumption | (simp; done) | (simp; omega)))
      go_wp2_with fail
      refine hK.out _ _ (by (try dsimp only); go_keep) (fun hHeld => ?_)
      clear hK K
      try simp only [Act.put, List.setIfInBounds_toArray, List.set_cons_zero, List.set_cons_succ]
      refine take_of (some 17) (i := 11) (v := ?vq1_11) rfl rfl (by kernel_rfl) (by kernel_rfl) (by kernel_rfl) (fun _ _ _ h => h) (Or.inl ⟨by rfl, ?hyq1_11⟩) (by assumption) ?restq1_11
      case hyq1_11 => (intro w hSw; (try dsimp only at hSw); go_simp; try with_reducible rfl)
      try simp only [Act.put, List.setIfInBounds_toArray, List.set_cons_zero, List.set_cons_succ]
      refine take_of (some 18) (i := 12) (v := ?vq1_12) rfl rfl (by kernel_rfl) (by kernel_rfl) (by kernel_rfl) (fun _ _ _ h => h) (Or.inl ⟨by rfl, ?hyq1_12⟩) (by assumption) ?restq1_12
      case hyq1_12 => (intro w hSw; (try dsimp only at hSw); go_simp; try with_reducible rfl)
      try simp only [Act.put, List.setIfInBounds_toArray, List.set_cons_zero, List.set_cons_succ]
      refine wpAnyH_done (by kernel_rfl) ?_ _
      refine NoPanic.normal ?_
      have hbw : Below w.heap.size w w' := by repeat (first | (with_reducible exact Below.refl _ _) | (with_reducible assumption) | (with_reducible refine bl_alloc ?_ _) | (with_reducible refine bl_drew ?_) | (with_reducible refine bl_drewN ?_ _) | ((with_reducible refine bl_set ?_ ?hb _); (case hb => first | (simp; done) | omega | (simp; omega))) | (with_reducible refine bl_trans ?_ (by assumption)))
      go_wp2
      (first | go_end0 | refine bodyPost_ret (results_none rfl _ _ _) rfl ?_)
      rw [HN.out]
      exact ⟨rfl, (S.out.below hbw).store hl (HW.out.below hbw), gr_set (gr_bl (gr_refl _ _) hbw) _ _, hL8⟩
    · have HN := Lib.hid (moStep_no (a := a) (h := h) (c := c) (xs := xs) (mins := mins) (best := best) (L := L) (.inr (by rw [HTV.out]; exact hle)))
      have hd2 : decide (t ≤ mins) = false := decide_eq_false hle
      go_enter Try.func66, Try.ntmps66
      go_wp2_with fail
      refine wp_region_noPanic ?_
      refine wp_region_held_drew (S := (fun w' => w'.cell? ⟨pb, 0, none⟩ = some (.slice A' best.length c') ∧ w'.cell? ⟨pm, 0, none⟩ = some (.int .i64 a) ∧ w'.cell? ⟨pm, 1, none⟩ = some (.int .i64 h) ∧ w'.cell? ⟨pm, 2, none⟩ = some (.int .i64 c) ∧ w'.cell? ⟨pl, 0, none⟩ = some (.slice A n cp) ∧ w'.cell? ⟨pn, 0, none⟩ = some (.int .i64 mins))) (by kernel_rfl) (by (try dsimp only); go_keep) (fun hHeld => ?_)
      refine take_of (some 6) (i := 0) (v := ?vq2_0) rfl rfl (by kernel_rfl) (by kernel_rfl) (by kernel_rfl) (fun _ _ _ h => h) (Or.inl ⟨by rfl, ?hyq2_0⟩) (by assumption) ?restq2_0
      case hyq2_0 => (intro w hSw; (try dsimp only at hSw); go_simp; try with_reducible rfl)
      try simp only [Act.put, List.setIfInBounds_toArray, List.set_cons_zero, List.set_cons_succ]
      refine take_of (some 7) (i := 1) (v := ?vq2_1) rfl rfl (by kernel_rfl) (by kernel_rfl) (by kernel_rfl) (fun _ _ _ h => h) (Or.inl ⟨by rfl, ?hyq2_1⟩) (by assumption) ?restq2_1
      case hyq2_1 => (intro w hSw; (try dsimp only at hSw); go_simp; try with_reducible rfl)
      try simp only [Act.put, List.setIfInBounds_toArray, List.set_cons_zero, List.set_cons_succ]
      refine take_of (some 8) (i := 2) (v := ?vq2_2) rfl rfl (by kernel_rfl) (by kernel_rfl) (by kernel_rfl) (fun _ _ _ h => h) (Or.inl ⟨by rfl, ?hyq2_2⟩) (by assumption) ?restq2_2
      case hyq2_2 => (intro w hSw; (try dsimp only at hSw); go_simp; try with_reducible rfl)
      try simp only [Act.put, List.setIfInBounds_toArray, List.set_cons_zero, List.set_cons_succ]
      refine take_of (some 9) (i := 3) (v := ?vq2_3) rfl rfl (by kernel_rfl) (by kernel_rfl) (by kernel_rfl) (fun _ _ _ h => h) (Or.inl ⟨by rfl, ?hyq2_3⟩) (by assumption) ?restq2_3
      case hyq2_3 => (intro w hSw; (try dsimp only at hSw); go_simp; try with_reducible rfl)
      try simp only [Act.put, List.setIfInBounds_toArray, List.set_cons_zero, List.set_cons_succ]
      refine take_of (some 10) (i := 4) (v := ?vq2_4) rfl rfl (by kernel_rfl) (by kernel_rfl) (by kernel_rfl) (fun _ _ _ h => h) (Or.inl ⟨by rfl, ?hyq2_4⟩) (by assumption) ?restq2_4
      case hyq2_4 => (intro w hSw; (try dsimp only at hSw); go_simp; try with_reducible rfl)
      try simp only [Act.put, List.setIfInBounds_toArray, List.set_cons_zero, List.set_cons_succ]
      refine take_of (some 11) (i := 5) (v := ?vq2_5) rfl rfl (by kernel_rfl) (by kernel_rfl) (by kernel_rfl) (fun _ _ _ h => h) (Or.inl ⟨by rfl, ?hyq2_5⟩) (by assumption) ?restq2_5
      case hyq2_5 => (intro w hSw; (try dsimp only at hSw); go_simp; try with_reducible rfl)
      try simp only [Act.put, List.setIfInBounds_toArray, List.set_cons_zero, List.set_cons_succ]
      refine take_of (some 12) (i := 6) (v := ?vq2_6) rfl rfl (by kernel_rfl) (by kernel_rfl) (by kernel_rfl) (fun _ _ _ h => h) (Or.inl ⟨by rfl, ?hyq2_6⟩) (by assumption) ?restq2_6
      case hyq2_6 => (intro w hSw; (try dsimp only at hSw); go_simp; try with_reducible rfl)
      try simp only [Act.put, List.setIfInBounds_toArray, List.set_cons_zero, List.set_cons_succ]
      refine take_of (some 13) (i := 7) (v := ?vq2_7) rfl rfl (by kernel_rfl) (by kernel_rfl) (by kernel_rfl) (fun _ _ _ h => h) (Or.inl ⟨by rfl, ?hyq2_7⟩) (by assumption) ?restq2_7
      case hyq2_7 => (intro w hSw; (try dsimp only at hSw); go_simp; try with_reducible rfl)
      try simp only [Act.put, List.setIfInBounds_toArray, List.set_cons_zero, List.set_cons_succ]
      refine take_of (some 14) (i := 8) (v := ?vq2_8) rfl rfl (by kernel_rfl) (by kernel_rfl) (by kernel_rfl) (fun _ _ _ h => h) (Or.inl ⟨by rfl, ?hyq2_8⟩) (by assumption) ?restq2_8
      case hyq2_8 => (intro w hSw; (try dsimp only at hSw); go_simp; try with_reducible rfl)
      try simp only [Act.put, List.setIfInBounds_toArray, List.set_cons_zero, List.set_cons_succ]
      refine take_of (some 16) (i := 10) (v := ?vq2_10) rfl rfl (by kernel_rfl) (by kernel_rfl) (by kernel_rfl) (fun _ _ _ h => h) (Or.inl ⟨by rfl, ?hyq2_10⟩) (by assumption) ?restq2_10
      case hyq2_10 => (intro w hSw; (try dsimp only at hSw); go_simp; try with_reducible rfl)
      try simp only [Act.put, List.setIfInBounds_toArray, List.set_cons_zero, List.set_cons_succ]
      refine wpAnyH_ready (rs := [9]) (by kernel_rfl) (by simp) ?_
      refine AllReadyH.cons rfl (fun K hK => ?_) AllReadyH.nil
      go_simp
      (go_at_call 61; refine (HT.out _ ?hq2).mono ?_; (case hq2 => exact by repeat (first | (with_reducible exact Below.refl _ _) | (with_reducible assumption) | (with_reducible refine bl_alloc ?_ _) | (with_reducible refine bl_drew ?_) | (with_reducible refine bl_drewN ?_ _) | ((with_reducible refine bl_set ?_ ?hb _); (case hb => first | (simp; done) | omega | (simp; omega))) | (with_reducible refine bl_trans ?_ (by assumption)))); rintro e w' ⟨rfl, hb⟩; obtain ⟨hc1, hf1, hz1⟩ := bl_at hb (k := pb) (by first | assumption | (simp; done) | (simp; omega)); obtain ⟨hc2, hf2, hz2⟩ := bl_at hb (k := pm) (by first | assumption | (simp; done) | (simp; omega)); obtain ⟨hc3, hf3, hz3⟩ := bl_at hb (k := pl) (by first | assumption | (simp; done) | (simp; omega)); obtain ⟨hc4, hf4, hz4⟩ := bl_at hb (k := pn) (by first | assumption | (simp; done) | (simp; omega)))
      go_wp2_with fail
      refine hK.out _ _ (by (try dsimp only); go_keep) (fun hHeld => ?_)
      clear hK K
      try simp only [Act.put, List.setIfInBounds_toArray, List.set_cons_zero, List.set_cons_succ]
      refine take_of (some 17) (i := 11) (v := ?vq2_11) rfl rfl (by kernel_rfl) (by kernel_rfl) (by kernel_rfl) (fun _ _ _ h => h) (Or.inl ⟨by rfl, ?hyq2_11⟩) (by assumption) ?restq2_11
      case hyq2_11 => (intro w hSw; (try dsimp only at hSw); go_simp; try with_reducible rfl)
      try simp only [Act.put, List.setIfInBounds_toArray, List.set_cons_zero, List.set_cons_succ]
      refine take_of (some 18) (i := 12) (v := ?vq2_12) rfl rfl (by kernel_rfl) (by kernel_rfl) (by kernel_rfl) (fun _ _ _ h => h) (Or.inl ⟨by rfl, ?hyq2_12⟩) (by assumption) ?restq2_12
      case hyq2_12 => (intro w hSw; (try dsimp only at hSw); go_simp; try with_reducible rfl)
      try simp only [Act.put, List.setIfInBounds_toArray, List.set_cons_zero, List.set_cons_succ]
      refine wpAnyH_done (by kernel_rfl) ?_ _
      refine NoPanic.normal ?_
      have hbw : Below w.heap.size w w' := by repeat (first | (with_reducible exact Below.refl _ _) | (with_reducible assumption) | (with_reducible refine bl_alloc ?_ _) | (with_reducible refine bl_drew ?_) | (with_reducible refine bl_drewN ?_ _) | ((with_reducible refine bl_set ?_ ?hb _); (case hb => first | (simp; done) | omega | (simp; omega))) | (with_reducible refine bl_trans ?_ (by assumption)))
      go_wp2
      (first | go_end0 | refine bodyPost_ret (results_none rfl _ _ _) rfl ?_)
      rw [HN.out]
      exact ⟨rfl, S.out.below hbw, gr_bl (gr_refl _ _) hbw, hbl⟩
  · have HN := Lib.hid (moStep_no (a := a) (h := h) (c := c) (xs := xs) (mins := mins) (best := best) (L := L) (.inl (by omega)))
    have hd1 : decide ((best.length : Int) < (k : Int)) = false := decide_eq_false (by omega)
    go_enter Try.func66, Try.ntmps66
    go_wp2_with fail
    refine wp_region_noPanic ?_
    refine wp_region_held_drew (S := (fun w' => w'.cell? ⟨pb, 0, none⟩ = some (.slice A' best.length c'))) (by kernel_rfl) (by (try dsimp only); go_keep) (fun hHeld => ?_)
    refine take_of (some 6) (i := 0) (v := ?vq3_0) rfl rfl (by kernel_rfl) (by kernel_rfl) (by kernel_rfl) (fun _ _ _ h => h) (Or.inl ⟨by rfl, ?hyq3_0⟩) (by assumption) ?restq3_0
    case hyq3_0 => (intro w hSw; (try dsimp only at hSw); go_simp; try with_reducible rfl)
    try simp only [Act.put, List.setIfInBounds_toArray, List.set_cons_zero, List.set_cons_succ]
    refine take_of (some 7) (i := 1) (v := ?vq3_1) rfl rfl (by kernel_rfl) (by kernel_rfl) (by kernel_rfl) (fun _ _ _ h => h) (Or.inl ⟨by rfl, ?hyq3_1⟩) (by assumption) ?restq3_1
    case hyq3_1 => (intro w hSw; (try dsimp only at hSw); go_simp; try with_reducible rfl)
    try simp only [Act.put, List.setIfInBounds_toArray, List.set_cons_zero, List.set_cons_succ]
    refine take_of (some 8) (i := 2) (v := ?vq3_2) rfl rfl (by kernel_rfl) (by kernel_rfl) (by kernel_rfl) (fun _ _ _ h => h) (Or.inl ⟨by rfl, ?hyq3_2⟩) (by assumption) ?restq3_2
    case hyq3_2 => (intro w hSw; (try dsimp only at hSw); go_simp; try with_reducible rfl)
    try simp only [Act.put, List.setIfInBounds_toArray, List.set_cons_zero, List.set_cons_succ]
    refine take_of (some 9) (i := 3) (v := ?vq3_3) rfl rfl (by kernel_rfl) (by kernel_rfl) (by kernel_rfl) (fun _ _ _ h => h) (Or.inl ⟨by rfl, ?hyq3_3⟩) (by assumption) ?restq3_3
    case hyq3_3 => (intro w hSw; (try dsimp only at hSw); go_simp; try with_reducible rfl)
    try simp only [Act.put, List.setIfInBounds_toArray, List.set_cons_zero, List.set_cons_succ]
    refine take_of (some 10) (i := 4) (v := ?vq3_4) rfl rfl (by kernel_rfl) (by kernel_rfl) (by kernel_rfl) (fun _ _ _ h => h) (Or.inl ⟨by rfl, ?hyq3_4⟩) (by assumption) ?restq3_4
    case hyq3_4 => (intro w hSw; (try dsimp only at hSw); go_simp; try with_reducible rfl)
    try simp only [Act.put, List.setIfInBounds_toArray, List.set_cons_zero, List.set_cons_succ]
    refine take_of (some 11) (i := 5) (v := ?vq3_5) rfl rfl (by kernel_rfl) (by kernel_rfl) (by kernel_rfl) (fun _ _ _ h => h) (Or.inl ⟨by rfl, ?hyq3_5⟩) (by assumption) ?restq3_5
    case hyq3_5 => (intro w hSw; (try dsimp only at hSw); go_simp; try with_reducible rfl)
    try simp only [Act.put, List.setIfInBounds_toArray, List.set_cons_zero, List.set_cons_succ]
    refine take_of (some 12) (i := 6) (v := undef) rfl rfl (by kernel_rfl) (by kernel_rfl) (by kernel_rfl) (fun _ _ _ h => h) (Or.inr ⟨by rfl, rfl⟩) (by assumption) ?_
    try simp only [Act.put, List.setIfInBounds_toArray, List.set_cons_zero, List.set_cons_succ]
    refine take_of (some 13) (i := 7) (v := undef) rfl rfl (by kernel_rfl) (by kernel_rfl) (by kernel_rfl) (fun _ _ _ h => h) (Or.inr ⟨by rfl, rfl⟩) (by assumption) ?_
    try simp only [Act.put, List.setIfInBounds_toArray, List.set_cons_zero, List.set_cons_succ]
    refine take_of (some 14) (i := 8) (v := undef) rfl rfl (by kernel_rfl) (by kernel_rfl) (by kernel_rfl) (fun _ _ _ h => h) (Or.inr ⟨by rfl, rfl⟩) (by assumption) ?_
    try simp only [Act.put, List.setIfInBounds_toArray, List.set_cons_zero, List.set_cons_succ]
    refine take_of (some 15) (i := 9) (v := undef) rfl rfl (by kernel_rfl) (by kernel_rfl) (by kernel_rfl) (fun _ _ _ h => h) (Or.inr ⟨by rfl, rfl⟩) (by assumption) ?_
    try simp only [Act.put, List.setIfInBounds_toArray, List.set_cons_zero, List.set_cons_succ]
    refine take_of (some 16) (i := 10) (v := undef) rfl rfl (by kernel_rfl) (by kernel_rfl) (by kernel_rfl) (fun _ _ _ h => h) (Or.inr ⟨by rfl, rfl⟩) (by assumption) ?_
    try simp only [Act.put, List.setIfInBounds_toArray, List.set_cons_zero, List.set_cons_succ]
    refine take_of (some 17) (i := 11) (v := undef) rfl rfl (by kernel_rfl) (by kernel_rfl) (by kernel_rfl) (fun _ _ _ h => h) (Or.inr ⟨by rfl, rfl⟩) (by assumption) ?_
    try simp only [Act.put, List.setIfInBounds_toArray, List.set_cons_zero, List.set_cons_succ]
    refine take_of (some 18) (i := 12) (v := ?vq3_12) rfl rfl (by kernel_rfl) (by kernel_rfl) (by kernel_rfl) (fun _ _ _ h => h) (Or.inl ⟨by rfl, ?hyq3_12⟩) (by assumption) ?restq3_12
    case hyq3_12 => (intro w hSw; (try dsimp only at hSw); go_simp; try with_reducible rfl)
    try simp only [Act.put, List.setIfInBounds_toArray, List.set_cons_zero, List.set_cons_succ]
    refine wpAnyH_done (by kernel_rfl) ?_ _
    refine NoPanic.normal ?_
    have hbw : Below w.heap.size w w.drew := by repeat (first | (with_reducible exact Below.refl _ _) | (with_reducible assumption) | (with_reducible refine bl_alloc ?_ _) | (with_reducible refine bl_drew ?_) | (with_reducible refine bl_drewN ?_ _) | ((with_reducible refine bl_set ?_ ?hb _); (case hb => first | (simp; done) | omega | (simp; omega))) | (with_reducible refine bl_trans ?_ (by assumption)))
    go_wp2
    (first | go_end0 | refine bodyPost_ret (results_none rfl _ _ _) rfl ?_)
    rw [HN.out]
    exact ⟨rfl, S.out.below hbw, gr_bl (gr_refl _ _) hbw, hbl⟩
end Go.Proofs.Ytabmhmbmdegoaaa
