/-
  Castings: how a slice of them reads, and the laws' own helpers over such slices (size, conversion, equality, marks).
-/
import Derived.Test.YtabmhmbmdegoaaaCom
import Derived.Deep.RegionHeld3
import Derived.Deep.DrawnRows
import Derived.Maps.AppendAt
namespace Go.Proofs.Ytabmhmbmdegoaaa
open Go.RowKit Go.ChangeShapes Go.WideShapes Go.ChangeAt Go.Deep Go.Joins
set_option linter.unusedVariables false
attribute [local go_sem ↓] Go.wp_at_zero Go.wp_at_succ

/-- a slice that may be written -/
def WrT {α : Type} (c : α → Nat → Value) (sz : Nat) (w : World) (base : Nat) (A : Option Addr) (n : Nat) (xs : List α) : Prop :=
  xs.length = n ∧ (0 < n → ∃ g, A = some ⟨g, 0, none⟩ ∧ base ≤ g ∧ g < w.heap.size ∧ (∀ i x, xs[i]? = some x → ∀ j, j < sz → w.cell? ⟨g, i * sz + j, none⟩ = some (c x j)) ∧ ∀ i, w.frozen? ⟨g, i, none⟩ = false)
section
variable {α : Type} {c : α → Nat → Value} {sz : Nat} {w w' : World} {base : Nat} {A : Option Addr} {n : Nat} {xs : List α}
theorem WrT.rd (h : WrT c sz w base A n xs) : Rd c sz w w.heap.size A n xs := by
  refine ⟨h.1, fun hn => ?_⟩
  obtain ⟨g, e, _, hl, hc, _⟩ := h.2 hn
  exact ⟨g, 0, e, hl, fun i x hx j hj => by rw [Nat.zero_add]; exact hc i x hx j hj⟩
theorem WrT.below (h : WrT c sz w base A n xs) (hb : Below w.heap.size w w') : WrT c sz w' base A n xs := by
  refine ⟨h.1, fun hn => ?_⟩
  obtain ⟨g, e, h1, hl, hc, hf⟩ := h.2 hn
  exact ⟨g, e, h1, Nat.lt_of_lt_of_le hl hb.size, fun i x hx j hj => (hb.cell (p := ⟨g, _, none⟩) hl).trans (hc i x hx j hj), fun i => (hb.frozen (p := ⟨g, i, none⟩) hl).trans (hf i)⟩
theorem wrT_rowOf {w4 : World} (h4 : WrT c sz w4 base A n xs) {k : Nat} (h : 0 < n ∧ A = some ⟨k, 0, none⟩) : base ≤ k ∧ k < w4.heap.size := by
  obtain ⟨g, e, h1, h2, _⟩ := h4.2 h.1
  rw [h.2] at e
  have : k = g := by simpa using e
  omega
theorem WrT.drewN (h : WrT c sz w base A n xs) (m : Nat) : WrT c sz (w.drewN m) base A n xs := h
end
/-- what the size check leaves -/
def szV (l : Int) (n : Nat) : Int := if l - n < 0 then -1 else l - n
theorem szV_neg {l : Int} {n : Nat} (h : l - n < 0) : szV l n = -1 := by simp [szV, h]
theorem szV_pos {l : Int} {n : Nat} (h : ¬ l - n < 0) : szV l n = l - n := by simp [szV, h]

theorem add_none (b off k : Nat) : (⟨b, off, none⟩ : Addr).add k = ⟨b, off + k, none⟩ := by
  unfold Addr.add
  by_cases hk : k = 0 <;> simp [hk]
structure Cst where
  b : Int
  n : Int
def cCst (x : Cst) (j : Nat) : Value := match j with | 0 => .int .i64 x.b | _ => .int .i64 x.n
def okCst (x : Cst) : Prop := I64 x.b ∧ I64 x.n
theorem Rd.atCst {w : World} {B : Nat} {A : Option Addr} {n : Nat} {xs : List Cst} (h : Rd cCst 2 w B A n xs) {k : Nat} (hk : k < n) :
    ∃ b off x, A = some ⟨b, off, none⟩ ∧ b < B ∧ xs[k]? = some x ∧ w.cell? ⟨b, off + k * 2, none⟩ = some (.int .i64 x.b) ∧ w.cell? ⟨b, off + k * 2 + 1, none⟩ = some (.int .i64 x.n) := by
  obtain ⟨b, off, x, h1, h2, h3, h4⟩ := h.at_ hk
  exact ⟨b, off, x, h1, h2, h3, by simpa [cCst] using h4 0 (by omega), by simpa [cCst] using h4 1 (by omega)⟩
theorem open_rdCst {H : Type} {enc : TypeId × Value → H} {P : Program} {w : World} {sp : Nat → Bool} {held : Bool} {t e i0 : TypeId} {fs : Array Field} (ht : P.underlying t = some (.slice e)) (he : P.underlying e = some (.struct fs))
    (hone : oneCellFields P fs = true) (hC : P.cellsOf e = fs.size) (hi : P.underlying i0 = some (.int .i64)) (h0 : fs[0]?.map (·.type) = some i0) (h1 : fs[1]?.map (·.type) = some i0) (hsz : fs.size = 2)
    {a : Option Addr} {len cap : Nat} {d : DataW H} {ps : List MemPlace} (h : DataW.Trod enc P w 0 sp held t (.slice a len cap) d ps) : ∃ xs, Rd cCst 2 w w.heap.size a len xs ∧ len ≤ maxLen ∧ ∀ x ∈ xs, okCst x := by
  obtain ⟨fuel, hf⟩ := h
  rcases open_slice_fields ht he hone hC hf with ⟨hcs, _⟩ | ⟨ad, l, cp, m, D, Pl, hcs, _, hl, hm, hmm, hx, hi'⟩
  · simp [Value.cells] at hcs
    obtain ⟨rfl, rfl, rfl⟩ := hcs
    exact ⟨[], Rd.nil, by simp [maxLen], by simp⟩
  · simp [Value.cells] at hcs
    obtain ⟨rfl, rfl, rfl⟩ := hcs
    have hml : len ≤ m := by rw [hmm]; split <;> omega
    have key : ∀ i, i < len → ∃ x : Cst, (w.cell? (ad.add (i * 2)) = some (.int .i64 x.b) ∧ w.cell? (ad.add (i * 2 + 1)) = some (.int .i64 x.n)) ∧ okCst x := by
      intro i hi2
      obtain ⟨ys, n', _, _, _, hf'⟩ := hi' i (by omega)
      rw [hsz] at hf'
      obtain ⟨f0, e0, t0⟩ : ∃ f0, fs[0]? = some f0 ∧ f0.type = i0 := by
        rcases hq : fs[0]? with _ | f0
        · rw [hq] at h0; cases h0
        · rw [hq] at h0; exact ⟨f0, rfl, by simpa using h0⟩
      obtain ⟨f1, e1, t1⟩ : ∃ f1, fs[1]? = some f1 ∧ f1.type = i0 := by
        rcases hq : fs[1]? with _ | f1
        · rw [hq] at h1; cases h1
        · rw [hq] at h1; exact ⟨f1, rfl, by simpa using h1⟩
      obtain ⟨v0, y0, hc0, _, ht0⟩ := hf' 0 f0 e0
      obtain ⟨v1, y1, hc1, _, ht1⟩ := hf' 1 f1 e1
      rw [t0] at ht0
      rw [t1] at ht1
      obtain ⟨q0, hq0, _, w0⟩ := DataW.trod_int hi ht0
      obtain ⟨q1, hq1, _, w1⟩ := DataW.trod_int hi ht1
      simp only [List.cons.injEq, and_true] at hq0 hq1
      subst hq0 hq1
      exact ⟨⟨q0, q1⟩, ⟨hc0, hc1⟩, i64_bd w0, i64_bd w1⟩
    obtain ⟨xs, hxl, hxs⟩ := list_of _ len key
    refine ⟨xs, ⟨hxl, fun hn => ?_⟩, by omega, fun x hx => ?_⟩
    · obtain ⟨x0, ⟨hc0, _⟩, _⟩ := key 0 hn
      have hsp := World.cell?_spot hc0
      have hlt := World.block_lt_of_cell? w _ hc0
      obtain ⟨b, off, spot⟩ := ad
      have hspot : spot = none := by simpa [Addr.add] using hsp
      subst hspot
      refine ⟨b, off, rfl, by simpa [Addr.add] using hlt, fun i x hx j hj => ?_⟩
      obtain ⟨⟨g0, g1⟩, _⟩ := hxs i x hx
      match j, hj with
      | 0, _ => rw [add_none] at g0; simpa [cCst] using g0
      | 1, _ => rw [add_none] at g1; simpa [cCst, Nat.add_assoc] using g1
    · obtain ⟨i, hi3⟩ := List.mem_iff_getElem?.1 hx
      exact (hxs i x hi3).2

set_option maxHeartbeats 400000 in
theorem szCst_any (A : Option Addr) (n c : Nat) (l : Int) (w : World) (hn : n ≤ maxLen) (h0 : 0 ≤ l) (h1 : l ≤ 1048576) : Calls Try.prog 20 #[.slice A n c, .int .i64 l] w fun e w' => e = .returned (.int .i64 (szV l n)) ∧ w = w' := by
  unfold maxLen at hn
  by_cases h : l - n < 0
  · rw [szV_neg h]
    go_enter Try.func20, Try.ntmps20
    go_wp2
    go_ret
    exact ⟨rfl, rfl⟩
  · rw [szV_pos h]
    go_enter Try.func20, Try.ntmps20
    go_wp2
    go_ret
    exact ⟨rfl, rfl⟩
set_option maxHeartbeats 400000 in
theorem toCst_any (x : Cst) (w : World) : Calls Try.prog 18 #[.agg #[.int .i64 x.b, .int .i64 x.n]] w fun e w' => e = .returned (.agg #[.int .i64 x.b, .int .i64 x.n]) ∧ Below w.heap.size w w' := by
  go_enter Try.func18, Try.ntmps18
  go_wp2
  exact bodyPost_ret (v := .agg #[.int .i64 x.b, .int .i64 x.n]) (by simp [results, Try.results18, go_sem]) rfl ⟨rfl, by repeat (first | (with_reducible exact Below.refl _ _) | (with_reducible assumption) | (with_reducible refine bl_alloc ?_ _) | (with_reducible refine bl_drew ?_) | (with_reducible refine bl_drewN ?_ _) | ((with_reducible refine bl_set ?_ ?hb _); (case hb => first | (simp; done) | omega | (simp; omega))) | (with_reducible refine bl_trans ?_ (by assumption)))⟩
theorem infoCst : (Try.prog.info? 32).map (fun i => (i.zero, i.size, i.bytes)) = some (some (.agg #[.int .i64 0, .int .i64 0]), 2, 16) := by kernel_rfl
set_option maxHeartbeats 1000000 in
theorem toCstS_cap (A : Option Addr) (n c B : Nat) (xs : List Cst) (w : World) (hr : Rd cCst 2 w B A n xs) (hB : B ≤ w.heap.size) (hn : n ≤ 1048576) :
    Calls Try.prog 22 #[.slice A n c] w fun e w' => ∃ A', e = .returned (.slice A' n n) ∧ WrT cCst 2 w' w.heap.size A' n xs ∧ Below w.heap.size w w' := by
  obtain ⟨i0, hi0, hi1, hi2, hi3⟩ := info_parts infoCst
  go_enter Try.func22, Try.ntmps22
  go_wp2_with (at_make; refine wpList_make_full _ rfl _ _ 38 rfl w.heap.size 32 i0 (.agg #[.int .i64 0, .int .i64 0]) 2 Try.underlying38 hi0 hi1 hi2 .i64 .i64 n n n rfl rfl rfl rfl (by rw [hi3]; omega) (by unfold maxLen; omega) (Nat.le_refl _) ?_; intro w1 hown hg)
  have hsz1 : w.heap.size < w1.heap.size := (hown.lt _ rfl).2
  have hfz : ∀ i, w1.frozen? ⟨w.heap.size, i, none⟩ = false := fun i => hown.frozenAt i
  have hbl : Below w.heap.size w w1 := (Below.refl _ _).grown hg (Nat.le_refl _) (by simp)
  have hcell : ∀ j, j < n * 2 → ∃ u, w1.cell? ⟨w.heap.size, j, none⟩ = some u := by
    intro j hj
    rw [hown.cellAt j hj]
    have hl := hown.1
    exact ⟨_, List.getElem?_eq_getElem (by omega)⟩
  have HC := Lib.hid hcell
  have HF := Lib.hid hfz
  clear hcell hfz hown hg
  go_loopw [4] (fun i wr => ∃ k : Nat, k ≤ n ∧ i = .int .i64 k ∧ Below w.heap.size w wr ∧ w.heap.size < wr.heap.size ∧ Hid (∀ i, wr.frozen? ⟨w.heap.size, i, none⟩ = false) ∧ Hid (∀ j, j < n * 2 → ∃ u, wr.cell? ⟨w.heap.size, j, none⟩ = some u) ∧ Hid (∀ i x, i < k → xs[i]? = some x → ∀ j, j < 2 → wr.cell? ⟨w.heap.size, i * 2 + j, none⟩ = some (cCst x j))) (fun i _ => n - (intOf i).toNat)
  case atStart => exact ⟨0, Nat.zero_le _, rfl, hbl, hsz1, HF.out, HC.out, fun i x hi => by omega⟩
  case round =>
    obtain ⟨k, hk, rfl, hb, hsz, HF', HC', HX'⟩ := hrel
    by_cases hlt : k < n
    · obtain ⟨b, off, x, rfl, hbB, hx, c0, c1⟩ := (hr.below (hb.mono hB)).atCst hlt
      have HX := Lib.hid hx
      clear hx
      obtain ⟨u0, hu0⟩ := HC'.out (k * 2) (by omega)
      obtain ⟨u1, hu1⟩ := HC'.out (k * 2 + 1) (by omega)
      have hf0 := HF'.out (k * 2)
      have hf1 := HF'.out (k * 2 + 1)
      have j0 : (0 : Int) ≤ (k : Int) := by omega
      have j1 : (k : Int) < (n : Int) := by omega
      go_wp2_with fail
      refine (toCst_any x _).mono ?_
      rintro e w2 ⟨rfl, hb2⟩
      obtain ⟨hc2, hf2, hz2⟩ := bl_at hb2 (k := w.heap.size) hsz
      have HB2 := Lib.hid hb2
      have HC2 := Lib.hid hc2
      have HF2 := Lib.hid hf2
      have d0 := (hc2 (k * 2)).trans hu0
      have d1 := (hc2 (k * 2 + 1)).trans hu1
      have g0 := (hf2 (k * 2)).trans hf0
      have g1 := (hf2 (k * 2 + 1)).trans hf1
      clear hb2 hc2 hf2 c0 c1 hu0 hu1 hf0 hf1
      go_wp2
      go_roundw
      case rel =>
        refine ⟨k + 1, by omega, by go_num, ((hb.trans (HB2.out.mono (by omega))).setCell (Nat.le_refl _) _).setCell (Nat.le_refl _) _, by simp [World.setCell]; omega, fun i => ?_, fun j hj => ?_, fun i y hi hy j hj => ?_⟩
        · rw [World.frozen?_setCell, World.frozen?_setCell, HF2.out]
          exact HF'.out i
        · obtain ⟨u, hu⟩ := HC'.out j hj
          obtain ⟨v, hv⟩ := cell?_setCell_some (w := w2) (p := ⟨w.heap.size, k * 2, none⟩) (x := .int .i64 x.b) (q := ⟨w.heap.size, j, none⟩) (v := u) (by rw [HC2.out]; exact hu)
          exact cell?_setCell_some hv
        · by_cases hik : i = k
          · subst hik
            obtain rfl : x = y := by have := HX.out; rw [this] at hy; exact Option.some.inj hy
            match j, hj with
            | 0, _ =>
              rw [World.cell?_setCell_other (h := by simp)]
              exact World.cell?_setCell_same _ _ _ d0
            | 1, _ =>
              refine World.cell?_setCell_same _ _ _ (u := u1) ?_
              rw [World.cell?_setCell_other (h := by simp)]
              exact d1
          · rw [World.cell?_setCell_other (h := by first | (simp; done) | (simp; omega)), World.cell?_setCell_other (h := by first | (simp; done) | (simp; omega)), HC2.out]
            exact HX'.out i y (by omega) hy j hj
      case measure => simp [intOf]; omega
    · go_wp2
      go_ret
      obtain rfl : k = n := by omega
      refine ⟨some ⟨w.heap.size, 0, none⟩, rfl, ⟨hr.1, fun _ => ⟨_, rfl, Nat.le_refl _, hsz, fun i x hx j hj => HX'.out i x ?_ hx j hj, HF'.out⟩⟩, hb⟩
      have := (List.getElem?_eq_some_iff.1 hx).1
      have := hr.1
      omega
theorem toCstS_any (A : Option Addr) (n c B : Nat) (xs : List Cst) (w : World) (hr : Rd cCst 2 w B A n xs) (hB : B ≤ w.heap.size) (hn : n ≤ 1048576) :
    Calls Try.prog 22 #[.slice A n c] w fun e w' => ∃ A' c', e = .returned (.slice A' n c') ∧ WrT cCst 2 w' w.heap.size A' n xs ∧ Below w.heap.size w w' :=
  (toCstS_cap A n c B xs w hr hB hn).mono fun e w' ⟨A', h1, h2, h3⟩ => ⟨A', n, h1, h2, h3⟩
set_option maxHeartbeats 400000 in
theorem eqCst_same (x : Cst) (w : World) : Calls Try.prog 54 #[.agg #[.int .i64 x.b, .int .i64 x.n], .agg #[.int .i64 x.b, .int .i64 x.n]] w fun e w' => e = .returned (.bool (true)) ∧ Below w.heap.size w w' := by
  go_enter Try.func54, Try.ntmps54
  go_wp2
  go_ret
  exact ⟨rfl, by repeat (first | (with_reducible exact Below.refl _ _) | (with_reducible assumption) | (with_reducible refine bl_alloc ?_ _) | (with_reducible refine bl_drew ?_) | (with_reducible refine bl_drewN ?_ _) | ((with_reducible refine bl_set ?_ ?hb _); (case hb => first | (simp; done) | omega | (simp; omega))) | (with_reducible refine bl_trans ?_ (by assumption)))⟩
set_option maxHeartbeats 1000000 in
theorem eqCstS_same (A A' : Option Addr) (n c c' B B' : Nat) (xs : List Cst) (w : World) (hx : Rd cCst 2 w B A n xs) (hy : Rd cCst 2 w B' A' n xs) (hB : B ≤ w.heap.size) (hB' : B' ≤ w.heap.size) (hn : n ≤ maxLen) :
    Calls Try.prog 24 #[.slice A n c, .slice A' n c'] w fun e w' => e = .returned (.bool (true)) ∧ Below w.heap.size w w' := by
  unfold maxLen at hn
  have hneq : ((n : Int) != (n : Int)) = false := by simp
  go_enter Try.func24, Try.ntmps24
  go_wp2
  go_loopw [5] (fun i wr => ∃ k : Nat, k ≤ n ∧ i = .int .i64 k ∧ Below w.heap.size w wr) (fun i _ => n - (intOf i).toNat)
  case atStart => exact ⟨0, Nat.zero_le _, rfl, Below.refl _ _⟩
  case round =>
    obtain ⟨k, hk, rfl, hb⟩ := hrel
    by_cases hlt : k < n
    · obtain ⟨b, off, x, rfl, hbB, hxk, c0, c1⟩ := (hx.below (hb.mono hB)).atCst hlt
      obtain ⟨b', off', y, rfl, hbB', hyk, d0, d1⟩ := (hy.below (hb.mono hB')).atCst hlt
      obtain rfl : x = y := by rw [hxk] at hyk; exact Option.some.inj hyk
      clear hxk hyk
      have hbw : b < wr.heap.size := by have := hb.size; omega
      have hbw' : b' < wr.heap.size := by have := hb.size; omega
      have HB := Lib.hid hb
      clear hb
      have i0 : (0 : Int) ≤ (k : Int) := by omega
      have i1 : (k : Int) < (n : Int) := by omega
      go_wp2_with fail
      go_region_held3 (fun w' => w'.cell? ⟨b, off + k * 2, none⟩ = some (.int .i64 x.b) ∧ w'.cell? ⟨b, off + k * 2 + 1, none⟩ = some (.int .i64 x.n) ∧ w'.cell? ⟨b', off' + k * 2, none⟩ = some (.int .i64 x.b) ∧ w'.cell? ⟨b', off' + k * 2 + 1, none⟩ = some (.int .i64 x.n)) (go_keep) (first | (go_at_call 54; refine (eqCst_same x _).mono ?_; rintro e w' ⟨rfl, hb⟩; obtain ⟨hc1, hf1, hz1⟩ := bl_at hb (k := b) (by first | assumption | (simp; done) | (simp; omega)); obtain ⟨hc2, hf2, hz2⟩ := bl_at hb (k := b') (by first | assumption | (simp; done) | (simp; omega))))
      have HB2 := Lib.hid hb
      clear hb hc1 hc2 hf1 hf2
      go_wp2
      go_roundw
      case rel => exact ⟨k + 1, by omega, by go_num, bl_trans HB.out ((bl_drew (Below.refl _ _)).trans HB2.out)⟩
      case measure => simp [intOf]; omega
    · go_wp2
      go_ret
      exact ⟨rfl, hb⟩
set_option maxHeartbeats 1000000 in
theorem markCstS_row (A : Option Addr) (n c base : Nat) (xs : List Cst) (k : Int) (w : World) (hx : WrT cCst 2 w base A n xs) (hn : n ≤ 1048576) (hk0 : 0 ≤ k) (hk : k ≤ 1000000) :
    Calls Try.prog 37 #[.slice A n c, .int .i64 k] w fun e w' => e = .returned (.int .i64 (k + 2 * (n : Int))) ∧ RowOf A n w w' ∧ w.heap.size = w'.heap.size := by
  obtain ⟨row, hr1, hr2⟩ : ∃ row : Option Nat, (∀ k, A = some ⟨k, 0, none⟩ → 0 < n → row = some k) ∧ (∀ k, row = some k → 0 < n ∧ A = some ⟨k, 0, none⟩) := by
    rcases Nat.eq_zero_or_pos n with h0 | h0
    · exact ⟨none, fun k _ h => by omega, fun k h => by cases h⟩
    · obtain ⟨g, e, _⟩ := hx.2 h0
      exact ⟨some g, fun k h _ => by rw [e] at h; simpa using h, fun k h => ⟨h0, by rw [e]; simpa using h⟩⟩
  have HR := Lib.hid hr1
  have HR2 := Lib.hid hr2
  clear hr1 hr2
  go_enter Try.func37, Try.ntmps37
  go_wp2
  go_loopw [1, 5] (fun q i wr => ∃ j : Nat, j ≤ n ∧ i = .int .i64 j ∧ q = .int .i64 (k + 2 * (j : Int)) ∧ w.grownBy wr row ∧ w.heap.size = wr.heap.size ∧ Hid (0 < n → ∃ g, A = some ⟨g, 0, none⟩ ∧ base ≤ g ∧ (∀ j, j < n * 2 → ∃ u, wr.cell? ⟨g, j, none⟩ = some u) ∧ ∀ i, wr.frozen? ⟨g, i, none⟩ = false)) (fun _ i _ => n - (intOf i).toNat)
  case atStart =>
    refine ⟨0, Nat.zero_le _, rfl, by simp, gr_refl _ _, rfl, fun h0 => ?_⟩
    obtain ⟨g, e1, e2, e3, e4, e5⟩ := hx.2 h0
    refine ⟨g, e1, e2, fun j hj => ?_, e5⟩
    have hl := hx.1
    obtain ⟨y, hy⟩ : ∃ y, xs[j / 2]? = some y := ⟨xs[j / 2]'(by omega), List.getElem?_eq_getElem _⟩
    have := e4 (j / 2) y hy (j % 2) (by omega)
    rw [show j / 2 * 2 + j % 2 = j by omega] at this
    exact ⟨_, this⟩
  case round =>
    obtain ⟨j, hj, rfl, rfl, hb, hsz, HW⟩ := hrel
    have HS := Lib.hid hsz
    clear hsz
    by_cases hlt : j < n
    · obtain ⟨g, rfl, hg, hc, hf⟩ := HW.out (by omega)
      obtain rfl := HR.out g rfl (by omega)
      obtain ⟨u0, hu0⟩ := hc (j * 2) (by omega)
      obtain ⟨u1, hu1⟩ := hc (j * 2 + 1) (by omega)
      have hf0 := hf (j * 2)
      have hf1 := hf (j * 2 + 1)
      have HC := Lib.hid hc
      have HF := Lib.hid hf
      clear hc hf
      have i0 : (0 : Int) ≤ (j : Int) := by omega
      have i1 : (j : Int) < (n : Int) := by omega
      go_wp2
      go_roundw
      case rel =>
        refine ⟨j + 1, by omega, by go_num, ?_, gr_set (gr_set (hb) _ _) _ _, by rw [HS.out]; simp [World.setCell], fun h0 => ⟨g, rfl, hg, fun i hi => ?_, fun i => ?_⟩⟩
        · rw [show k + 2 * ((j + 1 : Nat) : Int) = k + 2 * (j : Int) + 1 + 1 by omega]
        · obtain ⟨u, hu⟩ := HC.out i hi
          obtain ⟨v, hv⟩ := cell?_setCell_some (w := wr) (p := ⟨g, j * 2, none⟩) (x := .int .i64 (k + 2 * (j : Int))) (q := ⟨g, i, none⟩) (v := u) hu
          exact cell?_setCell_some hv
        · rw [World.frozen?_setCell, World.frozen?_setCell]
          exact HF.out i
      case measure => simp [intOf]; omega
    · go_wp2
      go_ret
      obtain rfl : j = n := by omega
      exact ⟨rfl, ⟨row, hb, HR2.out⟩, HS.out⟩
end Go.Proofs.Ytabmhmbmdegoaaa
