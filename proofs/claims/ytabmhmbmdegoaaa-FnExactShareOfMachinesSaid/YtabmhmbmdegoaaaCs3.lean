/-
  The ends of an order of castings: contracts on both sides.
-/
import Derived.Test.YtabmhmbmdegoaaaCs2
import Derived.Test.YtabmhmbmdegoaaaOwn
namespace Go.Proofs.Ytabmhmbmdegoaaa
open Go.RowKit
set_option linter.unusedVariables false
attribute [local go_sem ↓] Go.wp_at_zero Go.wp_at_succ

structure CsSt where
  b : Int
  t : Int
  ch : Int
  l : List Int
/-- one casting more, on a machine of h an hour and c a change -/
def csStep (h c : Int) (x : Cst) (s : CsSt) : CsSt :=
  if x.b = s.b then ⟨x.b, s.t + ctV h x.n, s.ch, s.l ++ [s.t + ctV h x.n]⟩ else ⟨x.b, s.t + c + ctV h x.n, s.ch + 1, s.l ++ [s.t + c + ctV h x.n]⟩
def csTo (h c : Int) (xs : List Cst) (os : List Int) (b : Int) : Nat → CsSt
  | 0 => ⟨b, 0, 0, []⟩
  | k + 1 => match os[k]? with
    | some i => match xs[i.toNat]? with
      | some x => csStep h c x (csTo h c xs os b k)
      | none => csTo h c xs os b k
    | none => csTo h c xs os b k
theorem csTo_snoc {h c b : Int} {xs : List Cst} {os : List Int} {k i : Nat} {x : Cst} (hi : os[k]? = some (i : Int)) (hx : xs[i]? = some x) : csTo h c xs os b (k + 1) = csStep h c x (csTo h c xs os b k) := by
  rw [csTo, hi]
  simp [hx]
theorem csStep_eq {h c : Int} {x : Cst} {s : CsSt} (hb : x.b = s.b) : csStep h c x s = ⟨x.b, s.t + ctV h x.n, s.ch, s.l ++ [s.t + ctV h x.n]⟩ := by simp [csStep, hb]
theorem csStep_ne {h c : Int} {x : Cst} {s : CsSt} (hb : ¬ x.b = s.b) : csStep h c x s = ⟨x.b, s.t + c + ctV h x.n, s.ch + 1, s.l ++ [s.t + c + ctV h x.n]⟩ := by simp [csStep, hb]
/-- what holds of the state behind k castings -/
def csOk (h c : Int) (s : CsSt) (k : Nat) : Prop := (1 ≤ s.b ∧ s.b ≤ 72) ∧ (0 ≤ s.t ∧ s.t ≤ 6000600 * (k : Int)) ∧ (0 ≤ s.ch ∧ s.ch ≤ (k : Int)) ∧ s.l.length ≤ k
theorem ctV_bd {h : Int} {x : Cst} (h0 : 1 ≤ h) (h1 : h ≤ 10000) (hx : castB x = true) : 0 ≤ ctV h x.n ∧ ctV h x.n ≤ 6000000 := by
  obtain ⟨_, n0, n1⟩ := cast_iff.1 hx
  exact ct_bd h0 h1 n0 n1
theorem csStep_ok {h c : Int} {x : Cst} {s : CsSt} {k : Nat} (hs : csOk h c s k) (h0 : 1 ≤ h) (h1 : h ≤ 10000) (c0 : 0 ≤ c) (c1 : c ≤ 600) (hx : castB x = true) : csOk h c (csStep h c x s) (k + 1) := by
  obtain ⟨v0, v1⟩ := ctV_bd h0 h1 hx
  obtain ⟨hb, _⟩ := cast_iff.1 hx
  obtain ⟨⟨b0, b1⟩, ⟨t0, t1⟩, ⟨q0, q1⟩, hl⟩ := hs
  by_cases hxb : x.b = s.b
  · rw [csStep_eq hxb]
    refine ⟨by simpa using hb, ⟨by simp; omega, by simp; omega⟩, ⟨by simpa using q0, by simp; omega⟩, by simp; omega⟩
  · rw [csStep_ne hxb]
    refine ⟨by simpa using hb, ⟨by simp; omega, by simp; omega⟩, ⟨by simp; omega, by simp; omega⟩, by simp; omega⟩
theorem csTo_ok {a h c : Int} {xs : List Cst} {os : List Int} (hm : machB a h c = true) (hx : ∀ x ∈ xs, castB x = true) : ∀ k, csOk h c (csTo h c xs os a k) k
  | 0 => by
    obtain ⟨ha, _, _⟩ := mach_iff.1 hm
    exact ⟨ha, ⟨by simp [csTo], by simp [csTo]⟩, ⟨by simp [csTo], by simp [csTo]⟩, by simp [csTo]⟩
  | k + 1 => by
    have ih := csTo_ok (os := os) hm hx k
    obtain ⟨_, ⟨h0, h1⟩, c0, c1⟩ := mach_iff.1 hm
    have ih' : csOk h c (csTo h c xs os a k) (k + 1) := by
      obtain ⟨i1, ⟨i2, i3⟩, ⟨i4, i5⟩, i6⟩ := ih
      exact ⟨i1, ⟨i2, by omega⟩, ⟨i4, by omega⟩, by omega⟩
    rw [csTo]
    split
    · split
      · rename_i x hx'
        exact csStep_ok ih h0 h1 c0 c1 (hx x (List.mem_of_getElem? hx'))
      · exact ih'
    · exact ih'
theorem csTo_mach {a h c : Int} {xs : List Cst} {os : List Int} (hm : machB a h c = true) (hx : ∀ x ∈ xs, castB x = true) (k : Nat) : machB (csTo h c xs os a k).b h c = true := by
  obtain ⟨hb, _⟩ := csTo_ok (os := os) hm hx k
  obtain ⟨_, r⟩ := mach_iff.1 hm
  exact mach_iff.2 ⟨hb, r⟩
theorem casts_each {xs : List Cst} (h : castsB xs = true) : ∀ x ∈ xs, castB x = true := by
  unfold castsB at h
  rw [Bool.and_eq_true] at h
  exact List.all_eq_true.1 h.1
theorem casts_len {xs : List Cst} (h : castsB xs = true) : xs.length ≤ 8 := by
  unfold castsB at h
  rw [Bool.and_eq_true] at h
  simpa using h.2
theorem box_keep {wr w' w5 : World} {o : Obj} {r : Option Nat} {g : Nat} (hb : Below wr.heap.size wr w') (hg : (w'.alloc o).grownBy w5 r) (h : g < wr.heap.size) (hne : r ≠ some g) :
    (∀ j, w5.cell? ⟨g, j, none⟩ = wr.cell? ⟨g, j, none⟩) ∧ (∀ j, w5.frozen? ⟨g, j, none⟩ = wr.frozen? ⟨g, j, none⟩) := by
  have hs := hb.size
  have e : w5.heap[g]? = wr.heap[g]? := by
    rw [hg.block g (by simp; omega) (fun e => hne e.symm), Below.heap_alloc _ _ _ (by omega), hb.block g h]
  exact ⟨fun j => World.cell?_of_block (a := ⟨g, j, none⟩) e, fun j => World.frozen?_of_block (a := ⟨g, j, none⟩) e⟩
theorem own_lit (w : World) (o : Obj) {base : Nat} {e : TypeId} (hb : base ≤ w.heap.size + 1) : ((w.alloc o).alloc (.cells #[] e)).ownsRow base e 1 (.slice (some ⟨w.heap.size + 1, 0, none⟩) 0 0) 0 [] :=
  own_empty (by have := heap_alloc_new (w.alloc o) (.cells #[] e); simpa using this) hb
/-- returns a new slice of int that reads xs, and a number -/
def RetN (xs : List Int) (b : Int) (w : World) (e : Ending) (w' : World) : Prop := ∃ A c, e = .returned (.tuple #[.slice A xs.length c, .int .i64 b]) ∧ Wr w' w.heap.size A xs.length xs ∧ Below w.heap.size w w'
set_option maxHeartbeats 1000000 in
theorem csEnds_any (a h c : Int) (A A' : Option Addr) (n cp n' cp' B : Nat) (xs : List Cst) (os : List Int) (w : World) (hr : Rd cCst 2 w B A n xs) (hro : Rd cI 1 w B A' n' os) (hB : B ≤ w.heap.size) (hn : n ≤ 1048576) (hn' : n' ≤ 1048576)
    (hm : machB a h c = true) (hx : ∀ x ∈ xs, castB x = true) (hd : ∀ (k : Nat) (x : Int), os[k]? = some x → 0 ≤ x ∧ x < (n : Int)) :
    Calls Try.prog 56 #[.agg #[.int .i64 a, .int .i64 h, .int .i64 c], .slice A n cp, .slice A' n' cp'] w (RetN (csTo h c xs os a os.length).l (csTo h c xs os a os.length).ch w) := by
  have hl := hr.1
  have hlo := hro.1
  have HOK := Lib.hid (csTo_ok (os := os) hm hx)
  have HM := Lib.hid (csTo_mach (os := os) hm hx)
  have HX := Lib.hid hx
  have HD := Lib.hid hd
  obtain ⟨_, ⟨h0, h1⟩, q0, q1⟩ := mach_iff.1 hm
  clear hx hd hm
  obtain ⟨i0, hi0, hi1, hi2, hi3⟩ := info_parts infoI
  go_enter Try.func56, Try.ntmps56
  go_wp2
  go_loopw [8, 9, 10, 15] (fun s t q i wr => ∃ k : Nat, k ≤ n' ∧ i = .int .i64 k ∧ t = .int .i64 (csTo h c xs os a k).t ∧ q = .int .i64 (csTo h c xs os a k).ch ∧ wr.ownsRow w.heap.size 3 1 s (csTo h c xs os a k).l.length ((csTo h c xs os a k).l.map (Value.int .i64)) ∧ Hid (s.ownBlock ≠ some w.heap.size) ∧ Below w.heap.size w wr ∧ w.heap.size < wr.heap.size ∧ wr.cell? ⟨w.heap.size, 0, none⟩ = some (.int .i64 (csTo h c xs os a k).b) ∧ wr.cell? ⟨w.heap.size, 1, none⟩ = some (.int .i64 h) ∧ wr.cell? ⟨w.heap.size, 2, none⟩ = some (.int .i64 c) ∧ wr.frozen? ⟨w.heap.size, 0, none⟩ = false) (fun _ _ _ i _ => n' - (intOf i).toNat)
  case atStart =>
    exact ⟨0, Nat.zero_le _, rfl, rfl, rfl, World.ownsRow_nil _ _ _ _, by simp [Hid, Value.ownBlock], by repeat (first | (with_reducible exact Below.refl _ _) | (with_reducible assumption) | (with_reducible refine bl_alloc ?_ _) | (with_reducible refine bl_drew ?_) | (with_reducible refine bl_drewN ?_ _) | ((with_reducible refine bl_set ?_ ?hb _); (case hb => first | (simp; done) | omega | (simp; omega))) | (with_reducible refine bl_trans ?_ (by assumption))), by first | (simp; done) | (simp; omega), by go_simp; rfl, by go_simp, by go_simp, by go_simp⟩
  case round =>
    obtain ⟨k, hk, rfl, rfl, rfl, hown, HNE, hb, hsz, m0, m1, m2, mf⟩ := hrel
    by_cases hlt : k < n'
    · obtain ⟨bo, offo, i, rfl, hboB, hik, hci⟩ := (hro.below (hb.mono hB)).atI hlt
      obtain ⟨ii0, ii1⟩ := HD.out k i hik
      obtain ⟨ii, rfl⟩ : ∃ ii : Nat, i = (ii : Int) := ⟨i.toNat, by omega⟩
      obtain ⟨b, off, x, rfl, hbB, hxi, c0, c1⟩ := (hr.below (hb.mono hB)).atCst (show ii < n by omega)
      have HCX := Lib.hid (HX.out x (List.mem_of_getElem? hxi))
      have hmk := HM.out k
      have hok := HOK.out k
      obtain ⟨⟨qb, qt, qc, ql⟩, hS⟩ : ∃ S, csTo h c xs os a k = S := ⟨_, rfl⟩
      have hs := csTo_snoc (h := h) (c := c) (b := a) hik hxi
      rw [hS] at hs hmk hok hown m0
      rw [hS]
      dsimp only at hmk hown m0
      have HMK := Lib.hid hmk
      have HS := Lib.hid hs
      obtain ⟨⟨b0, b1⟩, ⟨t0, t1⟩, ⟨s0, s1⟩, sl⟩ := hok
      dsimp only at b0 b1 t0 t1 s0 s1 sl
      clear hmk hs hS
      obtain ⟨v0, v1⟩ := ctV_bd h0 h1 HCX.out
      have HO := Lib.hid hown
      have HB := Lib.hid hb
      have hbw : b < wr.heap.size := by omega
      have hne1 : b ≠ w.heap.size := by omega
      have hne2 : w.heap.size ≠ b := by omega
      clear hik hxi hown hb
      by_cases hxb : x.b = qb
      · subst hxb
        have HE := Lib.hid (csStep_eq (h := h) (c := c) (x := x) (s := ⟨x.b, qt, qc, ql⟩) rfl)
        have e1 : IntKind.i64.wrap (qt + ctV h x.n) = qt + ctV h x.n := IntWalk.i64_in _ (by omega)
        go_wp2
        go_region_held3 (fun w' => w'.cell? ⟨w.heap.size, 0, none⟩ = some (.int .i64 x.b) ∧ w'.cell? ⟨b, off + ii * 2, none⟩ = some (.int .i64 x.b)) (go_keep) (fail)
        go_wp2
        go_region_held3 (fun w' => w'.cell? ⟨w.heap.size, 0, none⟩ = some (.int .i64 x.b) ∧ w'.cell? ⟨w.heap.size, 1, none⟩ = some (.int .i64 h) ∧ w'.cell? ⟨w.heap.size, 2, none⟩ = some (.int .i64 c) ∧ w'.cell? ⟨b, off + ii * 2, none⟩ = some (.int .i64 x.b) ∧ w'.cell? ⟨b, off + ii * 2 + 1, none⟩ = some (.int .i64 x.n)) (go_keep) (first | (go_at_call 50; refine (csTime_any _ _ _ x _ HMK.out HCX.out).mono ?_; rintro e w' ⟨rfl, hb⟩; obtain ⟨hc1, hf1, hz1⟩ := bl_at hb (k := w.heap.size) (by first | assumption | (simp; done) | (simp; omega)); obtain ⟨hc2, hf2, hz2⟩ := bl_at hb (k := b) (by first | assumption | (simp; done) | (simp; omega))))
        have HBW := Lib.hid (show Below (wr).heap.size (wr) w' from by repeat (first | (with_reducible exact Below.refl _ _) | (with_reducible assumption) | (with_reducible refine bl_alloc ?_ _) | (with_reducible refine bl_drew ?_) | (with_reducible refine bl_drewN ?_ _) | ((with_reducible refine bl_set ?_ ?hb _); (case hb => first | (simp; done) | omega | (simp; omega))) | (with_reducible refine bl_trans ?_ (by assumption))))
        have ho := own_below HO.out HBW.out
        have HO2 := Lib.hid ho
        have hs2 : wr.heap.size ≤ w'.heap.size := by have := HBW.out.size; simpa [World.setCell] using this
        clear ho hb hc1 hf1 hc2 hf2
        go_wp2_with (at_builtin; refine wpList_append_own_at _ rfl _ _ 42 rfl w.heap.size 3 i0 (.int .i64 0) 1 8 Try.underlying42 hi0 hi1 hi2 hi3 rfl (by decide) _ _ _ rfl (HO2.out.alloc _) ⟨w'.heap.size, 0, none⟩ 1 1 [.int .i64 (qt + ctV h x.n)] rfl rfl ?c1 ?c2 ?c3 ?c4 ?c5 ?_)
        case c1 => exact cell_one_new _ _ _
        case c2 => first | rfl | (intro u hu; simp at hu; subst hu; rfl)
        case c3 => unfold maxLen; omega
        case c4 => omega
        case c5 => simp; omega
        intro v' w5 hown5 hg5 _ hat5
        have HBX := Lib.hid (box_keep HBW.out hg5 (g := w.heap.size) (by simpa [World.setCell] using hsz) HNE.out)
        have HN5 := Lib.hid hown5
        have HG5 := Lib.hid hg5
        have HAT := Lib.hid hat5
        clear hown5 hg5 hat5
        go_wp2
        go_roundw
        case rel =>
          obtain ⟨hbc, hbf⟩ := HBX.out
          have hsn : w'.heap.size + 1 ≤ w5.heap.size := by have := HG5.out.size; simpa using this
          refine ⟨k + 1, by omega, by go_num, by rw [HS.out, HE.out], by rw [HS.out, HE.out], by rw [HS.out, HE.out]; simpa using HN5.out, ?_, ?_, by omega, ?_, (hbc 1).trans m1, (hbc 2).trans m2, (hbf 0).trans mf⟩
          · intro e
            rcases HAT.out with h1 | h1
            · exact HNE.out (h1.symm.trans e)
            · rw [h1] at e
              have : w'.heap.size + 1 = w.heap.size := by simpa using e
              omega
          · exact (bl_alloc (HB.out.trans (HBW.out.mono (by omega))) _).grown HG5.out (by simp; omega) (fun g hg => (HO.out.lt g hg).1)
          · rw [HS.out, HE.out]
            exact (hbc 0).trans m0
        case measure => simp [intOf]; omega
      · have HE := Lib.hid (csStep_ne (h := h) (c := c) (x := x) (s := ⟨qb, qt, qc, ql⟩) hxb)
        have hbb : (x.b != qb) = true := by simpa using hxb
        have HMX := Lib.hid (show machB x.b h c = true from mach_iff.2 ⟨(cast_iff.1 HCX.out).1, ⟨h0, h1⟩, q0, q1⟩)
        have e1 : IntKind.i64.wrap (qt + c) = qt + c := IntWalk.i64_in _ (by omega)
        have e2 : IntKind.i64.wrap (qt + c + ctV h x.n) = qt + c + ctV h x.n := IntWalk.i64_in _ (by omega)
        clear hxb
        go_wp2
        go_region_held3 (fun w' => w'.cell? ⟨w.heap.size, 0, none⟩ = some (.int .i64 qb) ∧ w'.cell? ⟨b, off + ii * 2, none⟩ = some (.int .i64 x.b)) (go_keep) (fail)
        go_wp2
        have p0 := World.cell?_setCell_same wr ⟨w.heap.size, 0, none⟩ (.int .i64 x.b) m0
        have p1 : (wr.setCell ⟨w.heap.size, 0, none⟩ (.int .i64 x.b)).cell? ⟨w.heap.size, 1, none⟩ = some (.int .i64 h) := (World.cell?_setCell_other _ _ _ _ (by simp)).trans m1
        have p2 : (wr.setCell ⟨w.heap.size, 0, none⟩ (.int .i64 x.b)).cell? ⟨w.heap.size, 2, none⟩ = some (.int .i64 c) := (World.cell?_setCell_other _ _ _ _ (by simp)).trans m2
        go_region_held3 (fun w' => w'.cell? ⟨w.heap.size, 0, none⟩ = some (.int .i64 x.b) ∧ w'.cell? ⟨w.heap.size, 1, none⟩ = some (.int .i64 h) ∧ w'.cell? ⟨w.heap.size, 2, none⟩ = some (.int .i64 c) ∧ w'.cell? ⟨b, off + ii * 2, none⟩ = some (.int .i64 x.b) ∧ w'.cell? ⟨b, off + ii * 2 + 1, none⟩ = some (.int .i64 x.n)) (go_keep) (first | (go_at_call 50; refine (csTime_any _ _ _ x _ HMX.out HCX.out).mono ?_; rintro e w' ⟨rfl, hb⟩; obtain ⟨hc1, hf1, hz1⟩ := bl_at hb (k := w.heap.size) (by first | assumption | (simp; done) | (simp; omega)); obtain ⟨hc2, hf2, hz2⟩ := bl_at hb (k := b) (by first | assumption | (simp; done) | (simp; omega))))
        have HBW := Lib.hid (show Below (wr.setCell ⟨w.heap.size, 0, none⟩ (.int .i64 x.b)).heap.size (wr.setCell ⟨w.heap.size, 0, none⟩ (.int .i64 x.b)) w' from by repeat (first | (with_reducible exact Below.refl _ _) | (with_reducible assumption) | (with_reducible refine bl_alloc ?_ _) | (with_reducible refine bl_drew ?_) | (with_reducible refine bl_drewN ?_ _) | ((with_reducible refine bl_set ?_ ?hb _); (case hb => first | (simp; done) | omega | (simp; omega))) | (with_reducible refine bl_trans ?_ (by assumption))))
        have ho := own_below (own_set HO.out HNE.out 0 (.int .i64 x.b)) HBW.out
        have HO2 := Lib.hid ho
        have hs2 : wr.heap.size ≤ w'.heap.size := by have := HBW.out.size; simpa [World.setCell] using this
        clear ho hb hc1 hf1 hc2 hf2
        go_wp2_with (at_builtin; refine wpList_append_own_at _ rfl _ _ 42 rfl w.heap.size 3 i0 (.int .i64 0) 1 8 Try.underlying42 hi0 hi1 hi2 hi3 rfl (by decide) _ _ _ rfl (HO2.out.alloc _) ⟨w'.heap.size, 0, none⟩ 1 1 [.int .i64 (qt + c + ctV h x.n)] rfl rfl ?c1 ?c2 ?c3 ?c4 ?c5 ?_)
        case c1 => exact cell_one_new _ _ _
        case c2 => first | rfl | (intro u hu; simp at hu; subst hu; rfl)
        case c3 => unfold maxLen; omega
        case c4 => omega
        case c5 => simp; omega
        intro v' w5 hown5 hg5 _ hat5
        have HBX := Lib.hid (box_keep HBW.out hg5 (g := w.heap.size) (by simpa [World.setCell] using hsz) HNE.out)
        have HN5 := Lib.hid hown5
        have HG5 := Lib.hid hg5
        have HAT := Lib.hid hat5
        clear hown5 hg5 hat5
        go_wp2
        go_roundw
        case rel =>
          obtain ⟨hbc, hbf⟩ := HBX.out
          have hsn : w'.heap.size + 1 ≤ w5.heap.size := by have := HG5.out.size; simpa using this
          refine ⟨k + 1, by omega, by go_num, by rw [HS.out, HE.out], by rw [HS.out, HE.out], by rw [HS.out, HE.out]; simpa using HN5.out, ?_, ?_, by omega, ?_, (hbc 1).trans ((World.cell?_setCell_other _ _ _ _ (by simp)).trans m1), (hbc 2).trans ((World.cell?_setCell_other _ _ _ _ (by simp)).trans m2), (hbf 0).trans ((World.frozen?_setCell _ _ _ _).trans mf)⟩
          · intro e
            rcases HAT.out with h1 | h1
            · exact HNE.out (h1.symm.trans e)
            · rw [h1] at e
              have : w'.heap.size + 1 = w.heap.size := by simpa using e
              omega
          · exact (bl_alloc ((HB.out.setCell (Nat.le_refl _) _).trans (HBW.out.mono (by simp [World.setCell]; omega))) _).grown HG5.out (by simp; omega) (fun g hg => (HO.out.lt g hg).1)
          · rw [HS.out, HE.out]
            exact (hbc 0).trans (World.cell?_setCell_same _ _ _ m0)
        case measure => simp [intOf]; omega
    · obtain rfl : k = n' := by omega
      subst hlo
      obtain ⟨A, cap, rfl, hwr⟩ := own_wr hown
      clear hown
      go_wp2
      go_ret2
      exact ⟨A, cap, rfl, hwr, hb⟩
set_option maxHeartbeats 1000000 in
theorem implEnds_any (a h c : Int) (A A' : Option Addr) (n cp n' cp' B : Nat) (xs : List Cst) (os : List Int) (w : World) (hr : Rd cCst 2 w B A n xs) (hro : Rd cI 1 w B A' n' os) (hB : B ≤ w.heap.size) (hn : n ≤ 1048576) (hn' : n' ≤ 1048576)
    (hm : machB a h c = true) (hx : ∀ x ∈ xs, castB x = true) (hd : ∀ (k : Nat) (x : Int), os[k]? = some x → 0 ≤ x ∧ x < (n : Int)) :
    Calls Try.prog 58 #[.agg #[.int .i64 a, .int .i64 h, .int .i64 c], .slice A n cp, .slice A' n' cp'] w (RetN (csTo h c xs os a os.length).l (csTo h c xs os a os.length).ch w) := by
  have hl := hr.1
  have hlo := hro.1
  have HOK := Lib.hid (csTo_ok (os := os) hm hx)
  have HM := Lib.hid (csTo_mach (os := os) hm hx)
  have HX := Lib.hid hx
  have HD := Lib.hid hd
  obtain ⟨_, ⟨h0, h1⟩, q0, q1⟩ := mach_iff.1 hm
  clear hx hd hm
  obtain ⟨i0, hi0, hi1, hi2, hi3⟩ := info_parts infoI
  go_enter Try.func58, Try.ntmps58
  go_wp2
  go_loopw [8, 9, 10, 16] (fun s t q i wr => ∃ k : Nat, k ≤ n' ∧ i = .int .i64 k ∧ t = .int .i64 (csTo h c xs os a k).t ∧ q = .int .i64 (csTo h c xs os a k).ch ∧ wr.ownsRow w.heap.size 3 1 s (csTo h c xs os a k).l.length ((csTo h c xs os a k).l.map (Value.int .i64)) ∧ Hid (s.ownBlock ≠ some w.heap.size) ∧ Below w.heap.size w wr ∧ w.heap.size < wr.heap.size ∧ wr.cell? ⟨w.heap.size, 0, none⟩ = some (.int .i64 (csTo h c xs os a k).b) ∧ wr.cell? ⟨w.heap.size, 1, none⟩ = some (.int .i64 h) ∧ wr.cell? ⟨w.heap.size, 2, none⟩ = some (.int .i64 c) ∧ wr.frozen? ⟨w.heap.size, 0, none⟩ = false) (fun _ _ _ i _ => n' - (intOf i).toNat)
  case atStart =>
    exact ⟨0, Nat.zero_le _, rfl, rfl, rfl, own_lit _ _ (by omega), by simp [Hid, Value.ownBlock], by repeat (first | (with_reducible exact Below.refl _ _) | (with_reducible assumption) | (with_reducible refine bl_alloc ?_ _) | (with_reducible refine bl_drew ?_) | (with_reducible refine bl_drewN ?_ _) | ((with_reducible refine bl_set ?_ ?hb _); (case hb => first | (simp; done) | omega | (simp; omega))) | (with_reducible refine bl_trans ?_ (by assumption))), by first | (simp; done) | (simp; omega), by go_simp; rfl, by go_simp, by go_simp, by go_simp⟩
  case round =>
    obtain ⟨k, hk, rfl, rfl, rfl, hown, HNE, hb, hsz, m0, m1, m2, mf⟩ := hrel
    by_cases hlt : k < n'
    · obtain ⟨bo, offo, i, rfl, hboB, hik, hci⟩ := (hro.below (hb.mono hB)).atI hlt
      obtain ⟨ii0, ii1⟩ := HD.out k i hik
      obtain ⟨ii, rfl⟩ : ∃ ii : Nat, i = (ii : Int) := ⟨i.toNat, by omega⟩
      obtain ⟨b, off, x, rfl, hbB, hxi, c0, c1⟩ := (hr.below (hb.mono hB)).atCst (show ii < n by omega)
      have HCX := Lib.hid (HX.out x (List.mem_of_getElem? hxi))
      have hmk := HM.out k
      have hok := HOK.out k
      obtain ⟨⟨qb, qt, qc, ql⟩, hS⟩ : ∃ S, csTo h c xs os a k = S := ⟨_, rfl⟩
      have hs := csTo_snoc (h := h) (c := c) (b := a) hik hxi
      rw [hS] at hs hmk hok hown m0
      rw [hS]
      dsimp only at hmk hown m0
      have HMK := Lib.hid hmk
      have HS := Lib.hid hs
      obtain ⟨⟨b0, b1⟩, ⟨t0, t1⟩, ⟨s0, s1⟩, sl⟩ := hok
      dsimp only at b0 b1 t0 t1 s0 s1 sl
      clear hmk hs hS
      obtain ⟨v0, v1⟩ := ctV_bd h0 h1 HCX.out
      have HO := Lib.hid hown
      have HB := Lib.hid hb
      have hbw : b < wr.heap.size := by omega
      have hne1 : b ≠ w.heap.size := by omega
      have hne2 : w.heap.size ≠ b := by omega
      clear hik hxi hown hb
      by_cases hxb : x.b = qb
      · subst hxb
        have HE := Lib.hid (csStep_eq (h := h) (c := c) (x := x) (s := ⟨x.b, qt, qc, ql⟩) rfl)
        have e1 : IntKind.i64.wrap (qt + ctV h x.n) = qt + ctV h x.n := IntWalk.i64_in _ (by omega)
        go_wp2
        go_region_held3 (fun w' => w'.cell? ⟨w.heap.size, 0, none⟩ = some (.int .i64 x.b) ∧ w'.cell? ⟨b, off + ii * 2, none⟩ = some (.int .i64 x.b)) (go_keep) (fail)
        go_wp2
        go_region_held3 (fun w' => w'.cell? ⟨w.heap.size, 0, none⟩ = some (.int .i64 x.b) ∧ w'.cell? ⟨w.heap.size, 1, none⟩ = some (.int .i64 h) ∧ w'.cell? ⟨w.heap.size, 2, none⟩ = some (.int .i64 c) ∧ w'.cell? ⟨b, off + ii * 2, none⟩ = some (.int .i64 x.b) ∧ w'.cell? ⟨b, off + ii * 2 + 1, none⟩ = some (.int .i64 x.n)) (go_keep) (first | (go_at_call 52; refine (castTime_any _ _ _ x _ HMK.out HCX.out).mono ?_; rintro e w' ⟨rfl, hb⟩; obtain ⟨hc1, hf1, hz1⟩ := bl_at hb (k := w.heap.size) (by first | assumption | (simp; done) | (simp; omega)); obtain ⟨hc2, hf2, hz2⟩ := bl_at hb (k := b) (by first | assumption | (simp; done) | (simp; omega))))
        have HBW := Lib.hid (show Below (wr).heap.size (wr) w' from by repeat (first | (with_reducible exact Below.refl _ _) | (with_reducible assumption) | (with_reducible refine bl_alloc ?_ _) | (with_reducible refine bl_drew ?_) | (with_reducible refine bl_drewN ?_ _) | ((with_reducible refine bl_set ?_ ?hb _); (case hb => first | (simp; done) | omega | (simp; omega))) | (with_reducible refine bl_trans ?_ (by assumption))))
        have ho := own_below HO.out HBW.out
        have HO2 := Lib.hid ho
        have hs2 : wr.heap.size ≤ w'.heap.size := by have := HBW.out.size; simpa [World.setCell] using this
        clear ho hb hc1 hf1 hc2 hf2
        go_wp2_with (at_builtin; refine wpList_append_own_at _ rfl _ _ 42 rfl w.heap.size 3 i0 (.int .i64 0) 1 8 Try.underlying42 hi0 hi1 hi2 hi3 rfl (by decide) _ _ _ rfl (HO2.out.alloc _) ⟨w'.heap.size, 0, none⟩ 1 1 [.int .i64 (qt + ctV h x.n)] rfl rfl ?c1 ?c2 ?c3 ?c4 ?c5 ?_)
        case c1 => exact cell_one_new _ _ _
        case c2 => first | rfl | (intro u hu; simp at hu; subst hu; rfl)
        case c3 => unfold maxLen; omega
        case c4 => omega
        case c5 => simp; omega
        intro v' w5 hown5 hg5 _ hat5
        have HBX := Lib.hid (box_keep HBW.out hg5 (g := w.heap.size) (by simpa [World.setCell] using hsz) HNE.out)
        have HN5 := Lib.hid hown5
        have HG5 := Lib.hid hg5
        have HAT := Lib.hid hat5
        clear hown5 hg5 hat5
        go_wp2
        go_roundw
        case rel =>
          obtain ⟨hbc, hbf⟩ := HBX.out
          have hsn : w'.heap.size + 1 ≤ w5.heap.size := by have := HG5.out.size; simpa using this
          refine ⟨k + 1, by omega, by go_num, by rw [HS.out, HE.out], by rw [HS.out, HE.out], by rw [HS.out, HE.out]; simpa using HN5.out, ?_, ?_, by omega, ?_, (hbc 1).trans m1, (hbc 2).trans m2, (hbf 0).trans mf⟩
          · intro e
            rcases HAT.out with h1 | h1
            · exact HNE.out (h1.symm.trans e)
            · rw [h1] at e
              have : w'.heap.size + 1 = w.heap.size := by simpa using e
              omega
          · exact (bl_alloc (HB.out.trans (HBW.out.mono (by omega))) _).grown HG5.out (by simp; omega) (fun g hg => (HO.out.lt g hg).1)
          · rw [HS.out, HE.out]
            exact (hbc 0).trans m0
        case measure => simp [intOf]; omega
      · have HE := Lib.hid (csStep_ne (h := h) (c := c) (x := x) (s := ⟨qb, qt, qc, ql⟩) hxb)
        have hbb : (x.b != qb) = true := by simpa using hxb
        have HMX := Lib.hid (show machB x.b h c = true from mach_iff.2 ⟨(cast_iff.1 HCX.out).1, ⟨h0, h1⟩, q0, q1⟩)
        have e1 : IntKind.i64.wrap (qt + c) = qt + c := IntWalk.i64_in _ (by omega)
        have e2 : IntKind.i64.wrap (qt + c + ctV h x.n) = qt + c + ctV h x.n := IntWalk.i64_in _ (by omega)
        clear hxb
        go_wp2
        go_region_held3 (fun w' => w'.cell? ⟨w.heap.size, 0, none⟩ = some (.int .i64 qb) ∧ w'.cell? ⟨b, off + ii * 2, none⟩ = some (.int .i64 x.b)) (go_keep) (fail)
        go_wp2
        have p0 := World.cell?_setCell_same wr ⟨w.heap.size, 0, none⟩ (.int .i64 x.b) m0
        have p1 : (wr.setCell ⟨w.heap.size, 0, none⟩ (.int .i64 x.b)).cell? ⟨w.heap.size, 1, none⟩ = some (.int .i64 h) := (World.cell?_setCell_other _ _ _ _ (by simp)).trans m1
        have p2 : (wr.setCell ⟨w.heap.size, 0, none⟩ (.int .i64 x.b)).cell? ⟨w.heap.size, 2, none⟩ = some (.int .i64 c) := (World.cell?_setCell_other _ _ _ _ (by simp)).trans m2
        go_region_held3 (fun w' => w'.cell? ⟨w.heap.size, 0, none⟩ = some (.int .i64 x.b) ∧ w'.cell? ⟨w.heap.size, 1, none⟩ = some (.int .i64 h) ∧ w'.cell? ⟨w.heap.size, 2, none⟩ = some (.int .i64 c) ∧ w'.cell? ⟨b, off + ii * 2, none⟩ = some (.int .i64 x.b) ∧ w'.cell? ⟨b, off + ii * 2 + 1, none⟩ = some (.int .i64 x.n)) (go_keep) (first | (go_at_call 52; refine (castTime_any _ _ _ x _ HMX.out HCX.out).mono ?_; rintro e w' ⟨rfl, hb⟩; obtain ⟨hc1, hf1, hz1⟩ := bl_at hb (k := w.heap.size) (by first | assumption | (simp; done) | (simp; omega)); obtain ⟨hc2, hf2, hz2⟩ := bl_at hb (k := b) (by first | assumption | (simp; done) | (simp; omega))))
        have HBW := Lib.hid (show Below (wr.setCell ⟨w.heap.size, 0, none⟩ (.int .i64 x.b)).heap.size (wr.setCell ⟨w.heap.size, 0, none⟩ (.int .i64 x.b)) w' from by repeat (first | (with_reducible exact Below.refl _ _) | (with_reducible assumption) | (with_reducible refine bl_alloc ?_ _) | (with_reducible refine bl_drew ?_) | (with_reducible refine bl_drewN ?_ _) | ((with_reducible refine bl_set ?_ ?hb _); (case hb => first | (simp; done) | omega | (simp; omega))) | (with_reducible refine bl_trans ?_ (by assumption))))
        have ho := own_below (own_set HO.out HNE.out 0 (.int .i64 x.b)) HBW.out
        have HO2 := Lib.hid ho
        have hs2 : wr.heap.size ≤ w'.heap.size := by have := HBW.out.size; simpa [World.setCell] using this
        clear ho hb hc1 hf1 hc2 hf2
        go_wp2_with (at_builtin; refine wpList_append_own_at _ rfl _ _ 42 rfl w.heap.size 3 i0 (.int .i64 0) 1 8 Try.underlying42 hi0 hi1 hi2 hi3 rfl (by decide) _ _ _ rfl (HO2.out.alloc _) ⟨w'.heap.size, 0, none⟩ 1 1 [.int .i64 (qt + c + ctV h x.n)] rfl rfl ?c1 ?c2 ?c3 ?c4 ?c5 ?_)
        case c1 => exact cell_one_new _ _ _
        case c2 => first | rfl | (intro u hu; simp at hu; subst hu; rfl)
        case c3 => unfold maxLen; omega
        case c4 => omega
        case c5 => simp; omega
        intro v' w5 hown5 hg5 _ hat5
        have HBX := Lib.hid (box_keep HBW.out hg5 (g := w.heap.size) (by simpa [World.setCell] using hsz) HNE.out)
        have HN5 := Lib.hid hown5
        have HG5 := Lib.hid hg5
        have HAT := Lib.hid hat5
        clear hown5 hg5 hat5
        go_wp2
        go_roundw
        case rel =>
          obtain ⟨hbc, hbf⟩ := HBX.out
          have hsn : w'.heap.size + 1 ≤ w5.heap.size := by have := HG5.out.size; simpa using this
          refine ⟨k + 1, by omega, by go_num, by rw [HS.out, HE.out], by rw [HS.out, HE.out], by rw [HS.out, HE.out]; simpa using HN5.out, ?_, ?_, by omega, ?_, (hbc 1).trans ((World.cell?_setCell_other _ _ _ _ (by simp)).trans m1), (hbc 2).trans ((World.cell?_setCell_other _ _ _ _ (by simp)).trans m2), (hbf 0).trans ((World.frozen?_setCell _ _ _ _).trans mf)⟩
          · intro e
            rcases HAT.out with h1 | h1
            · exact HNE.out (h1.symm.trans e)
            · rw [h1] at e
              have : w'.heap.size + 1 = w.heap.size := by simpa using e
              omega
          · exact (bl_alloc ((HB.out.setCell (Nat.le_refl _) _).trans (HBW.out.mono (by simp [World.setCell]; omega))) _).grown HG5.out (by simp; omega) (fun g hg => (HO.out.lt g hg).1)
          · rw [HS.out, HE.out]
            exact (hbc 0).trans (World.cell?_setCell_same _ _ _ m0)
        case measure => simp [intOf]; omega
    · obtain rfl : k = n' := by omega
      subst hlo
      obtain ⟨A, cap, rfl, hwr⟩ := own_wr hown
      clear hown
      go_wp2
      go_ret2
      exact ⟨A, cap, rfl, hwr, hb⟩
end Go.Proofs.Ytabmhmbmdegoaaa
