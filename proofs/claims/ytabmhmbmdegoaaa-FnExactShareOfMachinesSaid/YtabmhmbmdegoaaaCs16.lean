/-
  BestCastOrder: the closure.
-/
import Derived.Test.YtabmhmbmdegoaaaOrd3
import Derived.Test.YtabmhmbmdegoaaaCs15
namespace Go.Proofs.Ytabmhmbmdegoaaa
open Go.RowKit
set_option linter.unusedVariables false
attribute [local go_sem ↓] Go.wp_at_zero Go.wp_at_succ

/-- of what was there only the blocks from lo to hi have turned -/
structure Fr (lo hi : Nat) (w w' : World) : Prop where
  os : w'.os = w.os
  tape : w'.tape = w.tape
  output : w'.output = w.output
  size : w.heap.size ≤ w'.heap.size
  block : ∀ k, k < w.heap.size → (k < lo ∨ hi ≤ k) → w'.heap[k]? = w.heap[k]?
theorem fr_bl {lo hi : Nat} {w w' : World} (h : Below w.heap.size w w') : Fr lo hi w w' := ⟨h.os, h.tape, h.output, h.size, fun k hk _ => h.block k hk⟩
theorem fr_trans {lo hi : Nat} {w w' w'' : World} (h : Fr lo hi w w') (h' : Fr lo hi w' w'') : Fr lo hi w w'' :=
  ⟨h'.os.trans h.os, h'.tape.trans h.tape, h'.output.trans h.output, Nat.le_trans h.size h'.size, fun k hk hn => (h'.block k (Nat.lt_of_lt_of_le hk h.size) hn).trans (h.block k hk hn)⟩
theorem fr_set {lo hi : Nat} {W w : World} {g : Nat} (h : Fr lo hi W w) (h1 : lo ≤ g) (h2 : g < hi) (o : Nat) (u : Value) : Fr lo hi W (w.setCell ⟨g, o, none⟩ u) :=
  ⟨h.os, h.tape, h.output, by simpa [World.setCell] using h.size, fun k hk hne => (Below.heap_setCell _ _ _ _ (by show k ≠ g; omega)).trans (h.block k hk hne)⟩
theorem fr_below {lo hi B : Nat} {w w' : World} (h : Fr lo hi w w') (h1 : B ≤ lo) (h2 : B ≤ w.heap.size) : Below B w w' :=
  ⟨h.os, h.tape, h.output, h.size, fun k hk => h.block k (by omega) (.inl (by omega))⟩
theorem wr_fr {lo hi : Nat} {w w' : World} {base : Nat} {A : Option Addr} {n : Nat} {xs : List Int} (h : Wr w base A n xs) (hg : Fr lo hi w w') (hr : hi ≤ base) : Wr w' base A n xs := by
  refine ⟨h.1, fun hn => ?_⟩
  obtain ⟨g, e, h1, hl, hc, hf⟩ := h.2 hn
  have hb : w'.heap[g]? = w.heap[g]? := hg.block g hl (.inr (by omega))
  exact ⟨g, e, h1, Nat.lt_of_lt_of_le hl hg.size, fun i x hx => (World.cell?_of_block (a := ⟨g, i, none⟩) hb).trans (hc i x hx), fun i => (World.frozen?_of_block (a := ⟨g, i, none⟩) hb).trans (hf i)⟩
/-- what the closure of BestCastOrder has captured -/
structure StB (w : World) (pb pm pl : Nat) (a h c : Int) (A : Option Addr) (n cp : Nat) (xs : List Cst) (s : List Int × Int) : Prop where
  lt : pb + 1 < w.heap.size
  hm : pm < pb
  hl : pl < pb
  c0 : w.cell? ⟨pm, 0, none⟩ = some (.int .i64 a)
  c1 : w.cell? ⟨pm, 1, none⟩ = some (.int .i64 h)
  c2 : w.cell? ⟨pm, 2, none⟩ = some (.int .i64 c)
  c3 : w.cell? ⟨pl, 0, none⟩ = some (.slice A n cp)
  c4 : w.cell? ⟨pb + 1, 0, none⟩ = some (.int .i64 s.2)
  fr : w.frozen? ⟨pb, 0, none⟩ = false
  fq : w.frozen? ⟨pb + 1, 0, none⟩ = false
  rd : Rd cCst 2 w pb A n xs
  b : ∃ A' c', w.cell? ⟨pb, 0, none⟩ = some (.slice A' s.1.length c') ∧ Wr w (pb + 2) A' s.1.length s.1
theorem StB.below {w w' : World} {pb pm pl : Nat} {a h c : Int} {A : Option Addr} {n cp : Nat} {xs : List Cst} {u : List Int × Int} (s : StB w pb pm pl a h c A n cp xs u) (hb : Below w.heap.size w w') : StB w' pb pm pl a h c A n cp xs u := by
  have h1 := s.lt; have h2 := s.hm; have h3 := s.hl
  refine ⟨Nat.lt_of_lt_of_le s.lt hb.size, s.hm, s.hl, ?_, ?_, ?_, ?_, ?_, ?_, ?_, s.rd.below (hb.mono (by omega)), ?_⟩
  · exact (hb.cell (p := ⟨pm, 0, none⟩) (by show pm < _; omega)).trans s.c0
  · exact (hb.cell (p := ⟨pm, 1, none⟩) (by show pm < _; omega)).trans s.c1
  · exact (hb.cell (p := ⟨pm, 2, none⟩) (by show pm < _; omega)).trans s.c2
  · exact (hb.cell (p := ⟨pl, 0, none⟩) (by show pl < _; omega)).trans s.c3
  · exact (hb.cell (p := ⟨pb + 1, 0, none⟩) (by show pb + 1 < _; omega)).trans s.c4
  · exact (hb.frozen (p := ⟨pb, 0, none⟩) (by show pb < _; omega)).trans s.fr
  · exact (hb.frozen (p := ⟨pb + 1, 0, none⟩) (by show pb + 1 < _; omega)).trans s.fq
  · obtain ⟨A', c', e1, e2⟩ := s.b
    exact ⟨A', c', (hb.cell (p := ⟨pb, 0, none⟩) (by show pb < _; omega)).trans e1, e2.below hb⟩
theorem StB.store {w : World} {pb pm pl : Nat} {a h c : Int} {A : Option Addr} {n cp : Nat} {xs : List Cst} {u : List Int × Int} (s : StB w pb pm pl a h c A n cp xs u) {A1 : Option Addr} {k c1 : Nat} {L : List Int} {t : Int} (hk : L.length = k) (hw : Wr w (pb + 2) A1 k L) :
    StB ((w.setCell ⟨pb, 0, none⟩ (.slice A1 k c1)).setCell ⟨pb + 1, 0, none⟩ (.int .i64 t)) pb pm pl a h c A n cp xs (L, t) := by
  have h1 := s.lt; have h2 := s.hm; have h3 := s.hl
  obtain ⟨A', c', e1, e2⟩ := s.b
  subst hk
  refine ⟨by simpa [World.setCell] using s.lt, s.hm, s.hl, ?_, ?_, ?_, ?_, ?_, ?_, ?_, ?_, A1, c1, ?_, wr_otherV (wr_otherV hw (by omega) _ _) (by omega) _ _⟩
  · rw [World.cell?_setCell_other _ _ _ _ (by first | (simp; done) | (simp; omega)), World.cell?_setCell_other _ _ _ _ (by first | (simp; done) | (simp; omega))]; exact s.c0
  · rw [World.cell?_setCell_other _ _ _ _ (by first | (simp; done) | (simp; omega)), World.cell?_setCell_other _ _ _ _ (by first | (simp; done) | (simp; omega))]; exact s.c1
  · rw [World.cell?_setCell_other _ _ _ _ (by first | (simp; done) | (simp; omega)), World.cell?_setCell_other _ _ _ _ (by first | (simp; done) | (simp; omega))]; exact s.c2
  · rw [World.cell?_setCell_other _ _ _ _ (by first | (simp; done) | (simp; omega)), World.cell?_setCell_other _ _ _ _ (by first | (simp; done) | (simp; omega))]; exact s.c3
  · exact World.cell?_setCell_same _ _ _ ((World.cell?_setCell_other _ _ _ _ (by first | (simp; done) | (simp; omega))).trans s.c4)
  · rw [World.frozen?_setCell, World.frozen?_setCell]; exact s.fr
  · rw [World.frozen?_setCell, World.frozen?_setCell]; exact s.fq
  · exact (s.rd.keep fun b o hb => World.cell?_setCell_other _ _ _ _ (by first | (simp; done) | (simp; omega))).keep fun b o hb => World.cell?_setCell_other _ _ _ _ (by first | (simp; done) | (simp; omega))
  · rw [World.cell?_setCell_other _ _ _ _ (by first | (simp; done) | (simp; omega))]; exact World.cell?_setCell_same _ _ _ e1
def CloB (w : World) (pb pm pl : Nat) (a h c : Int) (A : Option Addr) (n cp : Nat) (xs : List Cst) (s : List Int × Int) (e : Ending) (w' : World) : Prop :=
  e = .returned (.tuple #[]) ∧ StB w' pb pm pl a h c A n cp xs s ∧ Fr pb (pb + 2) w w' ∧ s.1.length ≤ 8
theorem bStep_short {n : Nat} {t : List Int → Int} {s : List Int × Int} {L : List Int} (h : L.length < n) : bStep n t s L = s := by unfold bStep; rw [if_pos h]
theorem bStep_new {n : Nat} {t : List Int → Int} {s : List Int × Int} {L : List Int} (h : ¬ L.length < n) (h' : s.2 < 0 ∨ t L < s.2) : bStep n t s L = (L, t L) := by unfold bStep; rw [if_neg h, if_pos h']
theorem bStep_old {n : Nat} {t : List Int → Int} {s : List Int × Int} {L : List Int} (h : ¬ (s.2 < 0 ∨ t L < s.2)) : bStep n t s L = s := by unfold bStep; rw [if_neg h]; split <;> rfl
end Go.Proofs.Ytabmhmbmdegoaaa
