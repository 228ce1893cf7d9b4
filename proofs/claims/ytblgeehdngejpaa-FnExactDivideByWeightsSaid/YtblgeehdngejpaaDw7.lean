/-
  spec.DivideByWeights: plain helps for its walk.
-/
import Derived.Test.YtblgeehdngejpaaDw6
namespace Go.Proofs.Ytblgeehdngejpaa
open Go.RowKit
set_option linter.unusedVariables false

theorem bsT_true {f : Nat → Int} {g : Nat → Bool} {k : Nat} (h : g k = true) : bsT f g (k + 1) = bsT f g k := by rw [bsT, h]; simp
theorem bsT_neg {f : Nat → Int} {g : Nat → Bool} {k : Nat} (h : g k = false) (hb : bsT f g k = -1) : bsT f g (k + 1) = (k : Int) := by rw [bsT, h, hb]; simp
theorem bsT_gt {f : Nat → Int} {g : Nat → Bool} {k p : Nat} (h : g k = false) (hb : bsT f g k = (p : Int)) (hf : f p < f k) : bsT f g (k + 1) = (k : Int) := by rw [bsT, h, hb]; simp [hf]
theorem bsT_le {f : Nat → Int} {g : Nat → Bool} {k p : Nat} (h : g k = false) (hb : bsT f g k = (p : Int)) (hf : ¬ f p < f k) : bsT f g (k + 1) = (p : Int) := by
  rw [bsT, h, hb]
  have : ¬ (p : Int) < 0 := by omega
  simp [hf, this]
/-- a slice of bool made whole, that reads g -/
def Gv (w : World) (G n : Nat) (g : Nat → Bool) : Prop := (∀ i, i < n → w.cell? ⟨G, i, none⟩ = some (.bool (g i))) ∧ (∀ i, w.frozen? ⟨G, i, none⟩ = false) ∧ G < w.heap.size
theorem Gv.below {w w' : World} {G n : Nat} {g : Nat → Bool} (h : Gv w G n g) (hb : Below w.heap.size w w') : Gv w' G n g :=
  ⟨fun i hi => (hb.cell (p := ⟨G, i, none⟩) h.2.2).trans (h.1 i hi), fun i => (hb.frozen (p := ⟨G, i, none⟩) h.2.2).trans (h.2.1 i), Nat.lt_of_lt_of_le h.2.2 hb.size⟩
theorem Gv.set {w : World} {G n i : Nat} {g : Nat → Bool} (h : Gv w G n g) (hi : i < n) : Gv (w.setCell ⟨G, i, none⟩ (.bool true)) G n (fun k => g k || k == i) := by
  refine ⟨fun k hk => ?_, fun k => by rw [World.frozen?_setCell]; exact h.2.1 k, by simpa [World.setCell] using h.2.2⟩
  by_cases hik : k = i
  · subst hik
    rw [World.cell?_setCell_same _ _ _ (h.1 k hk)]
    simp
  · rw [World.cell?_setCell_other (h := by simp only [ne_eq, Addr.mk.injEq, true_and, and_true]; omega), h.1 k hk]
    simp [hik]
theorem Gv.far {w : World} {G h i n : Nat} {u : Value} {g : Nat → Bool} (hg : Gv w G n g) (hne : h ≠ G) : Gv (w.setCell ⟨h, i, none⟩ u) G n g :=
  ⟨fun k hk => (World.cell?_setCell_far _ _ _ _ hne).trans (hg.1 k hk), fun k => by rw [World.frozen?_setCell]; exact hg.2.1 k, by simpa [World.setCell] using hg.2.2⟩
theorem wr_far {w : World} {base G h i n : Nat} {u : Value} {xs : List Int} (hw : Wr w base (some ⟨h, 0, none⟩) n xs) (hne : G ≠ h) : Wr (w.setCell ⟨G, i, none⟩ u) base (some ⟨h, 0, none⟩) n xs := by
  refine ⟨hw.1, fun hn => ?_⟩
  obtain ⟨g, e, h1, h2, hc, hf⟩ := hw.2 hn
  obtain rfl : h = g := by simpa using e
  exact ⟨h, rfl, h1, by simpa [World.setCell] using h2, fun k x hx => (World.cell?_setCell_far _ _ _ _ hne).trans (hc k x hx), fun k => by rw [World.frozen?_setCell]; exact hf k⟩
theorem gO_next (o : Nat → Nat) (r : Nat) : (fun k => gO o r k || k == o r) = gO o (r + 1) := by funext k; rfl
theorem below_grow {B base : Nat} {a w w' : World} {v : Value} {n : Nat} {zs : List Value} {o : Obj} (h : Below B a w) (hv : w.ownsRow base 3 1 v n zs) (hg : (w.alloc o).grownBy w' v.ownBlock) (hB : B ≤ base) (hw : B ≤ w.heap.size) : Below B a w' :=
  (h.alloc hw o).grown hg (by simp; omega) (fun k hk => Nat.le_trans hB (hv.lt k hk).1)
theorem infoB : (Try.prog.info? 4).map (fun i => (i.zero, i.size, i.bytes)) = some (some (.bool false), 1, 1) := by kernel_rfl
theorem gv_made {w : World} {base G n : Nat} {z : Array Value} (h : w.ownsRow base 4 1 (.slice (some ⟨G, 0, none⟩) n n) n (madeCells z (n * 1)).toList) (hz : z = #[.bool false]) (hG : G < w.heap.size) : Gv w G n (fun _ => false) := by
  subst hz
  rw [toList_madeCells_one, Nat.mul_one] at h
  refine ⟨fun i hi => ?_, fun i => h.frozenAt i, hG⟩
  rw [h.cellAt i (by omega)]
  simp [hi]
end Go.Proofs.Ytblgeehdngejpaa
