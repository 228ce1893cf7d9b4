/-
  Boxs: how a slice of them reads, and the laws' own helpers over such slices (size, conversion, equality).
-/
import Derived.Test.YtgfobchpkjpiiaaDoorCom
import Derived.Test.YtgfobchpkjpiiaaDoorLt
import Derived.Deep.RegionHeld3
import Derived.Deep.DrawnRows
import Derived.Maps.AppendAt
namespace Go.Proofs.YtgfobchpkjpiiaaDoor
open Go.RowKit Go.ChangeShapes Go.WideShapes Go.ChangeAt Go.Deep Go.Joins
set_option linter.unusedVariables false
attribute [local go_sem ↓] Go.wp_at_zero Go.wp_at_succ

/-- a slice that may be written -/
def WrT {α : Type} (c : α → Nat → Value) (sz : Nat) (w : World) (base : Nat) (A : Option Addr) (n : Nat) (xs : List α) : Prop :=
  xs.length = n ∧ (0 < n → ∃ g, A = some ⟨g, 0, none⟩ ∧ base ≤ g ∧ g < w.heap.size ∧ (∀ i x, xs[i]? = some x → ∀ j, j < sz → w.cell? ⟨g, i * sz + j, none⟩ = some (c x j)) ∧ ∀ i, w.frozen? ⟨g, i, none⟩ = false)
section
variable {α : Type} {c : α → Nat → Value} {sz : Nat} {w w' : World} {base : Nat} {A : Option Addr} {n : Nat} {xs : List α}
theorem WrT.rd (h : WrT c sz w base A n xs) : Rd c sz w w.heap.size A n xs := by
  refine ⟨h.1, fun hn => ?_⟩
  obtain ⟨g, e, _, hl, hc, _⟩ := h.2 hn
  exact ⟨g, 0, e, hl, fun i x hx j hj => by rw [Nat.zero_add]; exact hc i x hx j hj⟩
theorem WrT.below (h : WrT c sz w base A n xs) (hb : Below w.heap.size w w') : WrT c sz w' base A n xs := by
  refine ⟨h.1, fun hn => ?_⟩
  obtain ⟨g, e, h1, hl, hc, hf⟩ := h.2 hn
  exact ⟨g, e, h1, Nat.lt_of_lt_of_le hl hb.size, fun i x hx j hj => (hb.cell (p := ⟨g, _, none⟩) hl).trans (hc i x hx j hj), fun i => (hb.frozen (p := ⟨g, i, none⟩) hl).trans (hf i)⟩
theorem WrT.drewN (h : WrT c sz w base A n xs) (m : Nat) : WrT c sz (w.drewN m) base A n xs := h
end
/-- what the size check leaves -/
def szV (l : Int) (n : Nat) : Int := if l - n < 0 then -1 else l - n
theorem szV_neg {l : Int} {n : Nat} (h : l - n < 0) : szV l n = -1 := by simp [szV, h]
theorem szV_pos {l : Int} {n : Nat} (h : ¬ l - n < 0) : szV l n = l - n := by simp [szV, h]

theorem add_none (b off k : Nat) : (⟨b, off, none⟩ : Addr).add k = ⟨b, off + k, none⟩ := by
  unfold Addr.add
  by_cases hk : k = 0 <;> simp [hk]
structure Box where
  code : ByteArray
  row : Int
  col : Int
  cnt : Int
def cBox (x : Box) (j : Nat) : Value := match j with | 0 => .string x.code | 1 => .int .i64 x.row | 2 => .int .i64 x.col | _ => .int .i64 x.cnt
def okBox (x : Box) : Prop := x.code.size ≤ maxLen ∧ I64 x.row ∧ I64 x.col ∧ I64 x.cnt
theorem Rd.atBox {w : World} {B : Nat} {A : Option Addr} {n : Nat} {xs : List Box} (h : Rd cBox 4 w B A n xs) {k : Nat} (hk : k < n) :
    ∃ b off x, A = some ⟨b, off, none⟩ ∧ b < B ∧ xs[k]? = some x ∧ w.cell? ⟨b, off + k * 4, none⟩ = some (.string x.code) ∧ w.cell? ⟨b, off + k * 4 + 1, none⟩ = some (.int .i64 x.row) ∧ w.cell? ⟨b, off + k * 4 + 2, none⟩ = some (.int .i64 x.col) ∧ w.cell? ⟨b, off + k * 4 + 3, none⟩ = some (.int .i64 x.cnt) := by
  obtain ⟨b, off, x, h1, h2, h3, h4⟩ := h.at_ hk
  exact ⟨b, off, x, h1, h2, h3, by simpa [cBox] using h4 0 (by omega), by simpa [cBox] using h4 1 (by omega), by simpa [cBox] using h4 2 (by omega), by simpa [cBox] using h4 3 (by omega)⟩
theorem open_rdBox {H : Type} {enc : TypeId × Value → H} {P : Program} {w : World} {sp : Nat → Bool} {held : Bool} {t e s0 i0 : TypeId} {fs : Array Field} (ht : P.underlying t = some (.slice e)) (he : P.underlying e = some (.struct fs))
    (hone : oneCellFields P fs = true) (hC : P.cellsOf e = fs.size) (hstr : P.underlying s0 = some .string) (hi : P.underlying i0 = some (.int .i64)) (h0 : fs[0]?.map (·.type) = some s0) (h1 : fs[1]?.map (·.type) = some i0) (h2 : fs[2]?.map (·.type) = some i0) (h3 : fs[3]?.map (·.type) = some i0) (hsz : fs.size = 4)
    {a : Option Addr} {len cap : Nat} {d : DataW H} {ps : List MemPlace} (h : DataW.Trod enc P w 0 sp held t (.slice a len cap) d ps) : ∃ xs, Rd cBox 4 w w.heap.size a len xs ∧ len ≤ maxLen ∧ ∀ x ∈ xs, okBox x := by
  obtain ⟨fuel, hf⟩ := h
  rcases open_slice_fields ht he hone hC hf with ⟨hcs, _⟩ | ⟨ad, l, cp, m, D, Pl, hcs, _, hl, hm, hmm, hx, hi'⟩
  · simp [Value.cells] at hcs
    obtain ⟨rfl, rfl, rfl⟩ := hcs
    exact ⟨[], Rd.nil, by simp [maxLen], by simp⟩
  · simp [Value.cells] at hcs
    obtain ⟨rfl, rfl, rfl⟩ := hcs
    have hml : len ≤ m := by rw [hmm]; split <;> omega
    have key : ∀ i, i < len → ∃ x : Box, (w.cell? (ad.add (i * 4)) = some (.string x.code) ∧ w.cell? (ad.add (i * 4 + 1)) = some (.int .i64 x.row) ∧ w.cell? (ad.add (i * 4 + 2)) = some (.int .i64 x.col) ∧ w.cell? (ad.add (i * 4 + 3)) = some (.int .i64 x.cnt)) ∧ okBox x := by
      intro i hi2
      obtain ⟨ys, n', _, _, _, hf'⟩ := hi' i (by omega)
      rw [hsz] at hf'
      obtain ⟨f0, e0, t0⟩ : ∃ f0, fs[0]? = some f0 ∧ f0.type = s0 := by
        rcases hq : fs[0]? with _ | f0
        · rw [hq] at h0; cases h0
        · rw [hq] at h0; exact ⟨f0, rfl, by simpa using h0⟩
      obtain ⟨f1, e1, t1⟩ : ∃ f1, fs[1]? = some f1 ∧ f1.type = i0 := by
        rcases hq : fs[1]? with _ | f1
        · rw [hq] at h1; cases h1
        · rw [hq] at h1; exact ⟨f1, rfl, by simpa using h1⟩
      obtain ⟨f2, e2, t2⟩ : ∃ f2, fs[2]? = some f2 ∧ f2.type = i0 := by
        rcases hq : fs[2]? with _ | f2
        · rw [hq] at h2; cases h2
        · rw [hq] at h2; exact ⟨f2, rfl, by simpa using h2⟩
      obtain ⟨f3, e3, t3⟩ : ∃ f3, fs[3]? = some f3 ∧ f3.type = i0 := by
        rcases hq : fs[3]? with _ | f3
        · rw [hq] at h3; cases h3
        · rw [hq] at h3; exact ⟨f3, rfl, by simpa using h3⟩
      obtain ⟨v0, y0, hc0, _, ht0⟩ := hf' 0 f0 e0
      obtain ⟨v1, y1, hc1, _, ht1⟩ := hf' 1 f1 e1
      obtain ⟨v2, y2, hc2, _, ht2⟩ := hf' 2 f2 e2
      obtain ⟨v3, y3, hc3, _, ht3⟩ := hf' 3 f3 e3
      rw [t0] at ht0
      rw [t1] at ht1
      rw [t2] at ht2
      rw [t3] at ht3
      obtain ⟨q0, hq0, _, w0⟩ := DataW.trod_string hstr ht0
      obtain ⟨q1, hq1, _, w1⟩ := DataW.trod_int hi ht1
      obtain ⟨q2, hq2, _, w2⟩ := DataW.trod_int hi ht2
      obtain ⟨q3, hq3, _, w3⟩ := DataW.trod_int hi ht3
      simp only [List.cons.injEq, and_true] at hq0 hq1 hq2 hq3
      subst hq0 hq1 hq2 hq3
      exact ⟨⟨q0, q1, q2, q3⟩, ⟨hc0, hc1, hc2, hc3⟩, w0, i64_bd w1, i64_bd w2, i64_bd w3⟩
    obtain ⟨xs, hxl, hxs⟩ := list_of _ len key
    refine ⟨xs, ⟨hxl, fun hn => ?_⟩, by omega, fun x hx => ?_⟩
    · obtain ⟨x0, ⟨hc0, _⟩, _⟩ := key 0 hn
      have hsp := World.cell?_spot hc0
      have hlt := World.block_lt_of_cell? w _ hc0
      obtain ⟨b, off, spot⟩ := ad
      have hspot : spot = none := by simpa [Addr.add] using hsp
      subst hspot
      refine ⟨b, off, rfl, by simpa [Addr.add] using hlt, fun i x hx j hj => ?_⟩
      obtain ⟨⟨g0, g1, g2, g3⟩, _⟩ := hxs i x hx
      match j, hj with
      | 0, _ => rw [add_none] at g0; simpa [cBox, Nat.add_assoc] using g0
      | 1, _ => rw [add_none] at g1; simpa [cBox, Nat.add_assoc] using g1
      | 2, _ => rw [add_none] at g2; simpa [cBox, Nat.add_assoc] using g2
      | 3, _ => rw [add_none] at g3; simpa [cBox, Nat.add_assoc] using g3
    · obtain ⟨i, hi3⟩ := List.mem_iff_getElem?.1 hx
      exact (hxs i x hi3).2

/-- what the size check says where it lets the arguments through -/
def SzOk (l : Int) (n : Nat) (xs : List Box) (r : Int) : Prop := r = -1 ∨ 0 ≤ r ∧ r + n ≤ l
def SzEnd (l : Int) (n : Nat) (xs : List Box) (w : World) (e : Ending) (w' : World) : Prop := ∃ r, e = .returned (.int .i64 r) ∧ SzOk l n xs r ∧ Below w.heap.size w w'
set_option maxHeartbeats 400000 in
theorem szBox_any (x : Box) (l : Int) (w : World) (hs : x.code.size ≤ maxLen) (h0 : 0 ≤ l) (h1 : l ≤ 1048576) : Calls Tryd.prog 52 #[.agg #[.string x.code, .int .i64 x.row, .int .i64 x.col, .int .i64 x.cnt], .int .i64 l] w fun e w' => e = .returned (.int .i64 (szV l x.code.size)) ∧ Below w.heap.size w w' := by
  unfold maxLen at hs
  by_cases h : l - x.code.size < 0
  · rw [szV_neg h]
    go_enter Tryd.func52, Tryd.ntmps52
    go_wp2
    go_ret
    exact ⟨rfl, by repeat (first | (with_reducible exact Below.refl _ _) | (with_reducible assumption) | (with_reducible refine bl_alloc ?_ _) | (with_reducible refine bl_drew ?_) | (with_reducible refine bl_drewN ?_ _) | ((with_reducible refine bl_set ?_ ?hb _); (case hb => first | (simp; done) | omega | (simp; omega))) | (with_reducible refine bl_trans ?_ (by assumption)))⟩
  · rw [szV_pos h]
    go_enter Tryd.func52, Tryd.ntmps52
    go_wp2
    go_ret
    exact ⟨rfl, by repeat (first | (with_reducible exact Below.refl _ _) | (with_reducible assumption) | (with_reducible refine bl_alloc ?_ _) | (with_reducible refine bl_drew ?_) | (with_reducible refine bl_drewN ?_ _) | ((with_reducible refine bl_set ?_ ?hb _); (case hb => first | (simp; done) | omega | (simp; omega))) | (with_reducible refine bl_trans ?_ (by assumption)))⟩
set_option maxHeartbeats 1000000 in
theorem szBoxS_any (A : Option Addr) (n c B : Nat) (xs : List Box) (l : Int) (w : World) (hr : Rd cBox 4 w B A n xs) (hB : B ≤ w.heap.size) (hn : n ≤ maxLen) (hok : ∀ x ∈ xs, okBox x) (h0 : 0 ≤ l) (h1 : l ≤ 1048576) :
    Calls Tryd.prog 21 #[.slice A n c, .int .i64 l] w (SzEnd l n xs w) := by
  unfold maxLen at hn
  have HOK := Lib.hid hok
  clear hok
  by_cases h : l - n < 0
  · go_enter Tryd.func21, Tryd.ntmps21
    go_wp2
    go_ret
    exact ⟨-1, rfl, .inl rfl, Below.refl _ _⟩
  · go_enter Tryd.func21, Tryd.ntmps21
    go_wp2
    go_loopw [1, 5] (fun q i wr => ∃ (k : Nat) (r : Int), k ≤ n ∧ i = .int .i64 k ∧ q = .int .i64 r ∧ 0 ≤ r ∧ r + n ≤ l ∧ Below w.heap.size w wr) (fun _ i _ => n - (intOf i).toNat)
    case atStart => exact ⟨0, l - n, Nat.zero_le _, rfl, rfl, by omega, by omega, Below.refl _ _⟩
    case round =>
      obtain ⟨k, r, hk, rfl, rfl, r0, r1, hb⟩ := hrel
      by_cases hlt : k < n
      · obtain ⟨b, off, x, rfl, hbB, hx, c0, c1, c2, c3⟩ := (hr.below (hb.mono hB)).atBox hlt
        have hsz := (HOK.out x (List.mem_of_getElem? hx)).1
        have HB := Lib.hid hb
        clear hx hb
        by_cases hr2 : r - x.code.size < 0
        · have E := Lib.hid (szV_neg hr2)
          go_wp2_with fail
          refine (szBox_any x _ _ hsz r0 (by omega)).mono ?_
          rw [E.out]
          rintro e w2 ⟨rfl, hb2⟩
          go_wp2
          go_ret
          exact ⟨-1, rfl, .inl rfl, bl_trans HB.out hb2⟩
        · have E := Lib.hid (szV_pos hr2)
          go_wp2_with fail
          refine (szBox_any x _ _ hsz r0 (by omega)).mono ?_
          rw [E.out]
          rintro e w2 ⟨rfl, hb2⟩
          go_wp2
          go_roundw
          case rel => exact ⟨k + 1, _, by omega, by go_num, rfl, by omega, by omega, bl_trans HB.out hb2⟩
          case measure => simp [intOf]; omega
      · go_wp2
        go_ret
        exact ⟨r, rfl, .inr ⟨r0, r1⟩, hb⟩
set_option maxHeartbeats 400000 in
theorem toBox_any (x : Box) (w : World) : Calls Tryd.prog 55 #[.agg #[.string x.code, .int .i64 x.row, .int .i64 x.col, .int .i64 x.cnt]] w fun e w' => e = .returned (.agg #[.string x.code, .int .i64 x.row, .int .i64 x.col, .int .i64 x.cnt]) ∧ Below w.heap.size w w' := by
  go_enter Tryd.func55, Tryd.ntmps55
  go_wp2
  exact bodyPost_ret (v := .agg #[.string x.code, .int .i64 x.row, .int .i64 x.col, .int .i64 x.cnt]) (by simp [results, Tryd.results55, go_sem]) rfl ⟨rfl, by repeat (first | (with_reducible exact Below.refl _ _) | (with_reducible assumption) | (with_reducible refine bl_alloc ?_ _) | (with_reducible refine bl_drew ?_) | (with_reducible refine bl_drewN ?_ _) | ((with_reducible refine bl_set ?_ ?hb _); (case hb => first | (simp; done) | omega | (simp; omega))) | (with_reducible refine bl_trans ?_ (by assumption)))⟩
theorem infoBox : (Tryd.prog.info? 80).map (fun i => (i.zero, i.size, i.bytes)) = some (some (.agg #[.string ⟨#[]⟩, .int .i64 0, .int .i64 0, .int .i64 0]), 4, 40) := by kernel_rfl
set_option maxHeartbeats 1000000 in
theorem toBoxS_cap (A : Option Addr) (n c B : Nat) (xs : List Box) (w : World) (hr : Rd cBox 4 w B A n xs) (hB : B ≤ w.heap.size) (hn : n ≤ 1048576) :
    Calls Tryd.prog 23 #[.slice A n c] w fun e w' => ∃ A', e = .returned (.slice A' n n) ∧ WrT cBox 4 w' w.heap.size A' n xs ∧ Below w.heap.size w w' := by
  obtain ⟨i0, hi0, hi1, hi2, hi3⟩ := info_parts infoBox
  go_enter Tryd.func23, Tryd.ntmps23
  go_wp2_with (at_make; refine wpList_make_full _ rfl _ _ 45 rfl w.heap.size 80 i0 (.agg #[.string ⟨#[]⟩, .int .i64 0, .int .i64 0, .int .i64 0]) 4 Tryd.underlying45 hi0 hi1 hi2 .i64 .i64 n n n rfl rfl rfl rfl (by rw [hi3]; omega) (by unfold maxLen; omega) (Nat.le_refl _) ?_; intro w1 hown hg)
  have hsz1 : w.heap.size < w1.heap.size := (hown.lt _ rfl).2
  have hfz : ∀ i, w1.frozen? ⟨w.heap.size, i, none⟩ = false := fun i => hown.frozenAt i
  have hbl : Below w.heap.size w w1 := (Below.refl _ _).grown hg (Nat.le_refl _) (by simp)
  have hcell : ∀ j, j < n * 4 → ∃ u, w1.cell? ⟨w.heap.size, j, none⟩ = some u := by
    intro j hj
    rw [hown.cellAt j hj]
    have hl := hown.1
    exact ⟨_, List.getElem?_eq_getElem (by omega)⟩
  have HC := Lib.hid hcell
  have HF := Lib.hid hfz
  clear hcell hfz hown hg
  go_loopw [4] (fun i wr => ∃ k : Nat, k ≤ n ∧ i = .int .i64 k ∧ Below w.heap.size w wr ∧ w.heap.size < wr.heap.size ∧ Hid (∀ i, wr.frozen? ⟨w.heap.size, i, none⟩ = false) ∧ Hid (∀ j, j < n * 4 → ∃ u, wr.cell? ⟨w.heap.size, j, none⟩ = some u) ∧ Hid (∀ i x, i < k → xs[i]? = some x → ∀ j, j < 4 → wr.cell? ⟨w.heap.size, i * 4 + j, none⟩ = some (cBox x j))) (fun i _ => n - (intOf i).toNat)
  case atStart => exact ⟨0, Nat.zero_le _, rfl, hbl, hsz1, HF.out, HC.out, fun i x hi => by omega⟩
  case round =>
    obtain ⟨k, hk, rfl, hb, hsz, HF', HC', HX'⟩ := hrel
    by_cases hlt : k < n
    · obtain ⟨b, off, x, rfl, hbB, hx, c0, c1, c2, c3⟩ := (hr.below (hb.mono hB)).atBox hlt
      have HX := Lib.hid hx
      clear hx
      obtain ⟨u0, hu0⟩ := HC'.out (k * 4) (by omega)
      obtain ⟨u1, hu1⟩ := HC'.out (k * 4 + 1) (by omega)
      obtain ⟨u2, hu2⟩ := HC'.out (k * 4 + 2) (by omega)
      obtain ⟨u3, hu3⟩ := HC'.out (k * 4 + 3) (by omega)
      have hfr0 := HF'.out (k * 4)
      have hfr1 := HF'.out (k * 4 + 1)
      have hfr2 := HF'.out (k * 4 + 2)
      have hfr3 := HF'.out (k * 4 + 3)
      have j0 : (0 : Int) ≤ (k : Int) := by omega
      have j1 : (k : Int) < (n : Int) := by omega
      go_wp2_with fail
      refine (toBox_any x _).mono ?_
      rintro e w2 ⟨rfl, hb2⟩
      obtain ⟨hc2, hf2, hz2⟩ := bl_at hb2 (k := w.heap.size) hsz
      have HB2 := Lib.hid hb2
      have HC2 := Lib.hid hc2
      have HF2 := Lib.hid hf2
      have d0 := (hc2 (k * 4)).trans hu0
      have d1 := (hc2 (k * 4 + 1)).trans hu1
      have d2 := (hc2 (k * 4 + 2)).trans hu2
      have d3 := (hc2 (k * 4 + 3)).trans hu3
      have g0 := (hf2 (k * 4)).trans hfr0
      have g1 := (hf2 (k * 4 + 1)).trans hfr1
      have g2 := (hf2 (k * 4 + 2)).trans hfr2
      have g3 := (hf2 (k * 4 + 3)).trans hfr3
      clear hb2 hc2 hf2 c0 c1 c2 c3 hu0 hu1 hu2 hu3 hfr0 hfr1 hfr2 hfr3
      go_wp2
      go_roundw
      case rel =>
        refine ⟨k + 1, by omega, by go_num, ((((hb.trans (HB2.out.mono (by omega))).setCell (Nat.le_refl _) _).setCell (Nat.le_refl _) _).setCell (Nat.le_refl _) _).setCell (Nat.le_refl _) _, by simp [World.setCell]; omega, fun i => ?_, fun j hj => ?_, fun i y hi hy j hj => ?_⟩
        · rw [World.frozen?_setCell, World.frozen?_setCell, World.frozen?_setCell, World.frozen?_setCell, HF2.out]
          exact HF'.out i
        · obtain ⟨u, hu⟩ := HC'.out j hj
          obtain ⟨v0, hv0⟩ := cell?_setCell_some (w := w2) (p := ⟨w.heap.size, k * 4, none⟩) (x := .string x.code) (q := ⟨w.heap.size, j, none⟩) (v := u) (by rw [HC2.out]; exact hu)
          obtain ⟨v1, hv1⟩ := cell?_setCell_some (p := ⟨w.heap.size, k * 4 + 1, none⟩) (x := .int .i64 x.row) hv0
          obtain ⟨v2, hv2⟩ := cell?_setCell_some (p := ⟨w.heap.size, k * 4 + 2, none⟩) (x := .int .i64 x.col) hv1
          exact cell?_setCell_some hv2
        · by_cases hik : i = k
          · subst hik
            obtain rfl : x = y := by have := HX.out; rw [this] at hy; exact Option.some.inj hy
            match j, hj with
            | 0, _ =>
              rw [World.cell?_setCell_other (h := by simp), World.cell?_setCell_other (h := by simp), World.cell?_setCell_other (h := by simp)]
              refine World.cell?_setCell_same _ _ _ (u := u0) ?_
              exact d0
            | 1, _ =>
              rw [World.cell?_setCell_other (h := by simp), World.cell?_setCell_other (h := by simp)]
              refine World.cell?_setCell_same _ _ _ (u := u1) ?_
              rw [World.cell?_setCell_other (h := by simp)]
              exact d1
            | 2, _ =>
              rw [World.cell?_setCell_other (h := by simp)]
              refine World.cell?_setCell_same _ _ _ (u := u2) ?_
              rw [World.cell?_setCell_other (h := by simp), World.cell?_setCell_other (h := by simp)]
              exact d2
            | 3, _ =>
              refine World.cell?_setCell_same _ _ _ (u := u3) ?_
              rw [World.cell?_setCell_other (h := by simp), World.cell?_setCell_other (h := by simp), World.cell?_setCell_other (h := by simp)]
              exact d3
          · rw [World.cell?_setCell_other (h := by first | (simp; done) | (simp; omega)), World.cell?_setCell_other (h := by first | (simp; done) | (simp; omega)), World.cell?_setCell_other (h := by first | (simp; done) | (simp; omega)), World.cell?_setCell_other (h := by first | (simp; done) | (simp; omega)), HC2.out]
            exact HX'.out i y (by omega) hy j hj
      case measure => simp [intOf]; omega
    · go_wp2
      go_ret
      obtain rfl : k = n := by omega
      refine ⟨some ⟨w.heap.size, 0, none⟩, rfl, ⟨hr.1, fun _ => ⟨_, rfl, Nat.le_refl _, hsz, fun i x hx j hj => HX'.out i x ?_ hx j hj, HF'.out⟩⟩, hb⟩
      have := (List.getElem?_eq_some_iff.1 hx).1
      have := hr.1
      omega
theorem toBoxS_any (A : Option Addr) (n c B : Nat) (xs : List Box) (w : World) (hr : Rd cBox 4 w B A n xs) (hB : B ≤ w.heap.size) (hn : n ≤ 1048576) :
    Calls Tryd.prog 23 #[.slice A n c] w fun e w' => ∃ A' c', e = .returned (.slice A' n c') ∧ WrT cBox 4 w' w.heap.size A' n xs ∧ Below w.heap.size w w' :=
  (toBoxS_cap A n c B xs w hr hB hn).mono fun e w' ⟨A', h1, h2, h3⟩ => ⟨A', n, h1, h2, h3⟩
set_option maxHeartbeats 400000 in
theorem eqBox_same (x : Box) (w : World) : Calls Tryd.prog 58 #[.agg #[.string x.code, .int .i64 x.row, .int .i64 x.col, .int .i64 x.cnt], .agg #[.string x.code, .int .i64 x.row, .int .i64 x.col, .int .i64 x.cnt]] w fun e w' => e = .returned (.bool (true)) ∧ Below w.heap.size w w' := by
  go_enter Tryd.func58, Tryd.ntmps58
  go_wp2
  go_ret
  exact ⟨rfl, by repeat (first | (with_reducible exact Below.refl _ _) | (with_reducible assumption) | (with_reducible refine bl_alloc ?_ _) | (with_reducible refine bl_drew ?_) | (with_reducible refine bl_drewN ?_ _) | ((with_reducible refine bl_set ?_ ?hb _); (case hb => first | (simp; done) | omega | (simp; omega))) | (with_reducible refine bl_trans ?_ (by assumption)))⟩
set_option maxHeartbeats 1000000 in
theorem eqBoxS_same (A A' : Option Addr) (n c c' B B' : Nat) (xs : List Box) (w : World) (hx : Rd cBox 4 w B A n xs) (hy : Rd cBox 4 w B' A' n xs) (hB : B ≤ w.heap.size) (hB' : B' ≤ w.heap.size) (hn : n ≤ maxLen) :
    Calls Tryd.prog 25 #[.slice A n c, .slice A' n c'] w fun e w' => e = .returned (.bool (true)) ∧ Below w.heap.size w w' := by
  unfold maxLen at hn
  have hneq : ((n : Int) != (n : Int)) = false := by simp
  go_enter Tryd.func25, Tryd.ntmps25
  go_wp2
  go_loopw [5] (fun i wr => ∃ k : Nat, k ≤ n ∧ i = .int .i64 k ∧ Below w.heap.size w wr) (fun i _ => n - (intOf i).toNat)
  case atStart => exact ⟨0, Nat.zero_le _, rfl, Below.refl _ _⟩
  case round =>
    obtain ⟨k, hk, rfl, hb⟩ := hrel
    by_cases hlt : k < n
    · obtain ⟨b, off, x, rfl, hbB, hxk, c0, c1, c2, c3⟩ := (hx.below (hb.mono hB)).atBox hlt
      obtain ⟨b', off', y, rfl, hbB', hyk, d0, d1, d2, d3⟩ := (hy.below (hb.mono hB')).atBox hlt
      obtain rfl : x = y := by rw [hxk] at hyk; exact Option.some.inj hyk
      clear hxk hyk
      have hbw : b < wr.heap.size := by have := hb.size; omega
      have hbw' : b' < wr.heap.size := by have := hb.size; omega
      have HB := Lib.hid hb
      clear hb
      have i0 : (0 : Int) ≤ (k : Int) := by omega
      have i1 : (k : Int) < (n : Int) := by omega
      go_wp2_with fail
      go_region_held3 (fun w' => w'.cell? ⟨b, off + k * 4, none⟩ = some (.string x.code) ∧ w'.cell? ⟨b, off + k * 4 + 1, none⟩ = some (.int .i64 x.row) ∧ w'.cell? ⟨b, off + k * 4 + 2, none⟩ = some (.int .i64 x.col) ∧ w'.cell? ⟨b, off + k * 4 + 3, none⟩ = some (.int .i64 x.cnt) ∧ w'.cell? ⟨b', off' + k * 4, none⟩ = some (.string x.code) ∧ w'.cell? ⟨b', off' + k * 4 + 1, none⟩ = some (.int .i64 x.row) ∧ w'.cell? ⟨b', off' + k * 4 + 2, none⟩ = some (.int .i64 x.col) ∧ w'.cell? ⟨b', off' + k * 4 + 3, none⟩ = some (.int .i64 x.cnt)) (go_keep) (first | (go_at_call 58; refine (eqBox_same x _).mono ?_; rintro e w' ⟨rfl, hb⟩; obtain ⟨hc1, hf1, hz1⟩ := bl_at hb (k := b) (by first | assumption | (simp; done) | (simp; omega)); obtain ⟨hc2, hf2, hz2⟩ := bl_at hb (k := b') (by first | assumption | (simp; done) | (simp; omega))))
      have HB2 := Lib.hid hb
      clear hb hc1 hc2 hf1 hf2
      go_wp2
      go_roundw
      case rel => exact ⟨k + 1, by omega, by go_num, bl_trans HB.out ((bl_drew (Below.refl _ _)).trans HB2.out)⟩
      case measure => simp [intOf]; omega
    · go_wp2
      go_ret
      exact ⟨rfl, hb⟩
end Go.Proofs.YtgfobchpkjpiiaaDoor
