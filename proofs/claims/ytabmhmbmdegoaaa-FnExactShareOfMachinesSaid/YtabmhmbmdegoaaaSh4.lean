/-
  ShareOfMachines: what the closure has captured.
-/
import Derived.Test.YtabmhmbmdegoaaaSh3
namespace Go.Proofs.Ytabmhmbmdegoaaa
open Go.RowKit
set_option linter.unusedVariables false
attribute [local go_sem ↓] Go.wp_at_zero Go.wp_at_succ

/-- what the closure of ShareOfMachines has captured -/
structure StS (w : World) (pb pm pn pl : Nat) (a h c a' h' c' : Int) (A : Option Addr) (n cp : Nat) (xs : List Cst) (s : List Int × Int) : Prop where
  lt : pb + 2 < w.heap.size
  hm : pm < pb
  hn : pn < pb
  hl : pl < pb
  c0 : w.cell? ⟨pm, 0, none⟩ = some (.int .i64 a)
  c1 : w.cell? ⟨pm, 1, none⟩ = some (.int .i64 h)
  c2 : w.cell? ⟨pm, 2, none⟩ = some (.int .i64 c)
  d0 : w.cell? ⟨pn, 0, none⟩ = some (.int .i64 a')
  d1 : w.cell? ⟨pn, 1, none⟩ = some (.int .i64 h')
  d2 : w.cell? ⟨pn, 2, none⟩ = some (.int .i64 c')
  e0 : w.cell? ⟨pl, 0, none⟩ = some (.slice A n cp)
  e1 : w.cell? ⟨pb + 1, 0, none⟩ = some (.int .i64 s.2)
  e2 : w.cell? ⟨pb + 2, 0, none⟩ = some (.func (.func 68) #[] #[.pointer (some ⟨pl, 0, none⟩), .pointer (some ⟨pb + 2, 0, none⟩), .pointer (some ⟨pm, 0, none⟩), .pointer (some ⟨pn, 0, none⟩), .pointer (some ⟨pb + 1, 0, none⟩), .pointer (some ⟨pb, 0, none⟩)])
  fr : w.frozen? ⟨pb, 0, none⟩ = false
  fq : w.frozen? ⟨pb + 1, 0, none⟩ = false
  rd : Rd cCst 2 w pb A n xs
  b : ∃ A' c', w.cell? ⟨pb, 0, none⟩ = some (.slice A' s.1.length c') ∧ Wr w (pb + 3) A' s.1.length s.1
theorem StS.below {w w' : World} {pb pm pn pl : Nat} {a h c a' h' c' : Int} {A : Option Addr} {n cp : Nat} {xs : List Cst} {u : List Int × Int} (s : StS w pb pm pn pl a h c a' h' c' A n cp xs u) (hb : Below w.heap.size w w') : StS w' pb pm pn pl a h c a' h' c' A n cp xs u := by
  have h1 := s.lt; have h2 := s.hm; have h3 := s.hn; have h4 := s.hl
  refine ⟨Nat.lt_of_lt_of_le s.lt hb.size, s.hm, s.hn, s.hl, (hb.cell (p := ⟨pm, 0, none⟩) (by show pm < _; omega)).trans s.c0, (hb.cell (p := ⟨pm, 1, none⟩) (by show pm < _; omega)).trans s.c1, (hb.cell (p := ⟨pm, 2, none⟩) (by show pm < _; omega)).trans s.c2, (hb.cell (p := ⟨pn, 0, none⟩) (by show pn < _; omega)).trans s.d0, (hb.cell (p := ⟨pn, 1, none⟩) (by show pn < _; omega)).trans s.d1, (hb.cell (p := ⟨pn, 2, none⟩) (by show pn < _; omega)).trans s.d2, (hb.cell (p := ⟨pl, 0, none⟩) (by show pl < _; omega)).trans s.e0, (hb.cell (p := ⟨pb + 1, 0, none⟩) (by show pb + 1 < _; omega)).trans s.e1, (hb.cell (p := ⟨pb + 2, 0, none⟩) (by show pb + 2 < _; omega)).trans s.e2, (hb.frozen (p := ⟨pb, 0, none⟩) (by show pb < _; omega)).trans s.fr, (hb.frozen (p := ⟨pb + 1, 0, none⟩) (by show pb + 1 < _; omega)).trans s.fq, s.rd.below (hb.mono (by omega)), ?_⟩
  obtain ⟨A', c', e1, e2⟩ := s.b
  exact ⟨A', c', (hb.cell (p := ⟨pb, 0, none⟩) (by show pb < _; omega)).trans e1, e2.below hb⟩
theorem StS.store {w : World} {pb pm pn pl : Nat} {a h c a' h' c' : Int} {A : Option Addr} {n cp : Nat} {xs : List Cst} {u : List Int × Int} (s : StS w pb pm pn pl a h c a' h' c' A n cp xs u) {A1 : Option Addr} {k c1 : Nat} {L : List Int} {t : Int} (hk : L.length = k) (hw : Wr w (pb + 3) A1 k L) :
    StS ((w.setCell ⟨pb, 0, none⟩ (.slice A1 k c1)).setCell ⟨pb + 1, 0, none⟩ (.int .i64 t)) pb pm pn pl a h c a' h' c' A n cp xs (L, t) := by
  have h1 := s.lt; have h2 := s.hm; have h3 := s.hn; have h4 := s.hl
  obtain ⟨A', c', e1, e2⟩ := s.b
  subst hk
  exact ⟨by simpa [World.setCell] using s.lt, s.hm, s.hn, s.hl, (World.cell?_setCell_other _ _ _ _ (by first | (simp; done) | (simp; omega))).trans ((World.cell?_setCell_other _ _ _ _ (by first | (simp; done) | (simp; omega))).trans s.c0), (World.cell?_setCell_other _ _ _ _ (by first | (simp; done) | (simp; omega))).trans ((World.cell?_setCell_other _ _ _ _ (by first | (simp; done) | (simp; omega))).trans s.c1), (World.cell?_setCell_other _ _ _ _ (by first | (simp; done) | (simp; omega))).trans ((World.cell?_setCell_other _ _ _ _ (by first | (simp; done) | (simp; omega))).trans s.c2), (World.cell?_setCell_other _ _ _ _ (by first | (simp; done) | (simp; omega))).trans ((World.cell?_setCell_other _ _ _ _ (by first | (simp; done) | (simp; omega))).trans s.d0), (World.cell?_setCell_other _ _ _ _ (by first | (simp; done) | (simp; omega))).trans ((World.cell?_setCell_other _ _ _ _ (by first | (simp; done) | (simp; omega))).trans s.d1), (World.cell?_setCell_other _ _ _ _ (by first | (simp; done) | (simp; omega))).trans ((World.cell?_setCell_other _ _ _ _ (by first | (simp; done) | (simp; omega))).trans s.d2), (World.cell?_setCell_other _ _ _ _ (by first | (simp; done) | (simp; omega))).trans ((World.cell?_setCell_other _ _ _ _ (by first | (simp; done) | (simp; omega))).trans s.e0), World.cell?_setCell_same _ _ _ ((World.cell?_setCell_other _ _ _ _ (by first | (simp; done) | (simp; omega))).trans s.e1), (World.cell?_setCell_other _ _ _ _ (by first | (simp; done) | (simp; omega))).trans ((World.cell?_setCell_other _ _ _ _ (by first | (simp; done) | (simp; omega))).trans s.e2), by rw [World.frozen?_setCell, World.frozen?_setCell]; exact s.fr, by rw [World.frozen?_setCell, World.frozen?_setCell]; exact s.fq, (s.rd.keep fun b o hb => World.cell?_setCell_other _ _ _ _ (by first | (simp; done) | (simp; omega))).keep fun b o hb => World.cell?_setCell_other _ _ _ _ (by first | (simp; done) | (simp; omega)), A1, c1, (World.cell?_setCell_other _ _ _ _ (by first | (simp; done) | (simp; omega))).trans (World.cell?_setCell_same _ _ _ e1), wr_otherV (wr_otherV hw (by omega) _ _) (by omega) _ _⟩
def CloS (w : World) (pb pm pn pl : Nat) (a h c a' h' c' : Int) (A : Option Addr) (n cp : Nat) (xs : List Cst) (s : List Int × Int) (e : Ending) (w' : World) : Prop :=
  e = .returned (.tuple #[]) ∧ StS w' pb pm pn pl a h c a' h' c' A n cp xs s ∧ Fr pb (pb + 2) w w' ∧ s.1.length ≤ 8
def ShAll (pb pm pn pl : Nat) (a h c a' h' c' : Int) (A : Option Addr) (n cp : Nat) (xs : List Cst) (f : Nat) : Prop :=
  ∀ (A1 : Option Addr) (k k1 : Nat) (L : List Int) (u : List Int × Int) (w : World), L.length + f = n → StS w pb pm pn pl a h c a' h' c' A n cp xs u → Wr w (pb + 3) A1 k L → k ≤ k1 → u.1.length ≤ 8 →
    Calls Try.prog 68 #[.slice A1 k k1, .pointer (some ⟨pl, 0, none⟩), .pointer (some ⟨pb + 2, 0, none⟩), .pointer (some ⟨pm, 0, none⟩), .pointer (some ⟨pn, 0, none⟩), .pointer (some ⟨pb + 1, 0, none⟩), .pointer (some ⟨pb, 0, none⟩)] w (CloS w pb pm pn pl a h c a' h' c' A n cp xs (sh (shT a h c a' h' c' xs) f L u))
end Go.Proofs.Ytabmhmbmdegoaaa
