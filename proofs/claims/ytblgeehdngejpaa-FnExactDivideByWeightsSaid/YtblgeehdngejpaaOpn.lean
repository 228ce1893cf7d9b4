/-
  Arguments of kinds []int and []string opened.
-/
import Derived.Test.YtblgeehdngejpaaLib
namespace Go.Proofs.Ytblgeehdngejpaa
open Go.RowKit Go.ChangeShapes Go.WideShapes Go.ChangeAt Go.Deep Go.Joins
set_option linter.unusedVariables false

section
variable {H : Type} {enc : TypeId × Value → H} {P : Program} {w : World} {sp : Nat → Bool} {held : Bool}
theorem open_slice_one {t e : TypeId} (ht : P.underlying t = some (.slice e)) (hC : P.cellsOf e = 1)
    {a : Option Addr} {len cap : Nat} {d : DataW H} {ps : List MemPlace} (h : DataW.Trod enc P w 0 sp held t (.slice a len cap) d ps) :
    (a = none ∧ len = 0) ∨ ∃ ad, a = some ad ∧ len ≤ maxLen ∧ ∀ i, i < len → ∃ (v : Value) (n : Nat) (y : DataW H × List MemPlace), w.cell? (ad.add i) = some v ∧ DataW.trod enc P w 0 sp held n e [v] = some y := by
  obtain ⟨fuel, hf⟩ := h
  rcases open_slice ht hf with ⟨hcs, _⟩ | ⟨ad, l, cp, m, n, D, Pl, hcs, _, hl, hm, hmm, hx, hi⟩
  · simp [Value.cells] at hcs
    exact .inl ⟨hcs.1, hcs.2.1⟩
  · simp [Value.cells] at hcs
    obtain ⟨rfl, rfl, rfl⟩ := hcs
    have hml : len ≤ m := by rw [hmm]; split <;> omega
    refine .inr ⟨ad, rfl, by omega, fun i hi2 => ?_⟩
    obtain ⟨cs', hc, ht'⟩ := hi i (by omega)
    rw [hC] at hc
    obtain ⟨_, hcl, hat⟩ := World.cells?_some hc
    match cs', hcl with
    | [v], _ =>
      refine ⟨v, n, _, ?_, ht'⟩
      have := hat 0 (by omega)
      simpa [Addr.add] using this
theorem open_rdI {t e : TypeId} (ht : P.underlying t = some (.slice e)) (he : P.underlying e = some (.int .i64)) (hC : P.cellsOf e = 1)
    {a : Option Addr} {len cap : Nat} {d : DataW H} {ps : List MemPlace} (h : DataW.Trod enc P w 0 sp held t (.slice a len cap) d ps) : ∃ xs, Rd cI 1 w w.heap.size a len xs ∧ len ≤ maxLen ∧ ∀ x ∈ xs, I64 x := by
  rcases open_slice_one ht hC h with ⟨rfl, rfl⟩ | ⟨ad, rfl, hm, hi⟩
  · exact ⟨[], Rd.nil, by simp [maxLen], by simp⟩
  · have key : ∀ i, i < len → ∃ x : Int, w.cell? (ad.add i) = some (.int .i64 x) ∧ I64 x := by
      intro i hi2
      obtain ⟨v, n, y, hc, ht'⟩ := hi i hi2
      obtain ⟨q, hq, _, hw⟩ := DataW.trod_int he ht'
      simp only [List.cons.injEq, and_true] at hq
      subst hq
      exact ⟨q, hc, i64_bd hw⟩
    obtain ⟨xs, hxl, hxs⟩ := list_of _ len key
    refine ⟨xs, ⟨hxl, fun hn => ?_⟩, hm, fun x hx => ?_⟩
    · obtain ⟨x0, hc0, _⟩ := key 0 hn
      have hsp := World.cell?_spot hc0
      have hlt := World.block_lt_of_cell? w _ hc0
      obtain ⟨b, off, spot⟩ := ad
      have hspot : spot = none := by simpa [Addr.add] using hsp
      subst hspot
      refine ⟨b, off, rfl, by simpa [Addr.add] using hlt, fun i x hx j hj => ?_⟩
      obtain ⟨g0, _⟩ := hxs i x hx
      obtain rfl : j = 0 := by omega
      have e : (⟨b, off, none⟩ : Addr).add i = ⟨b, off + i, none⟩ := by
        unfold Addr.add
        by_cases hk : i = 0 <;> simp [hk]
      rw [e] at g0
      simpa [cI] using g0
    · obtain ⟨i, hi3⟩ := List.mem_iff_getElem?.1 hx
      exact (hxs i x hi3).2
theorem open_rdS {t e : TypeId} (ht : P.underlying t = some (.slice e)) (he : P.underlying e = some .string) (hC : P.cellsOf e = 1)
    {a : Option Addr} {len cap : Nat} {d : DataW H} {ps : List MemPlace} (h : DataW.Trod enc P w 0 sp held t (.slice a len cap) d ps) : ∃ xs, Rd cS 1 w w.heap.size a len xs ∧ len ≤ maxLen ∧ ∀ x ∈ xs, x.size ≤ maxLen := by
  rcases open_slice_one ht hC h with ⟨rfl, rfl⟩ | ⟨ad, rfl, hm, hi⟩
  · exact ⟨[], Rd.nil, by simp [maxLen], by simp⟩
  · have key : ∀ i, i < len → ∃ x : ByteArray, w.cell? (ad.add i) = some (.string x) ∧ x.size ≤ maxLen := by
      intro i hi2
      obtain ⟨v, n, y, hc, ht'⟩ := hi i hi2
      obtain ⟨q, hq, _, hw⟩ := DataW.trod_string he ht'
      simp only [List.cons.injEq, and_true] at hq
      subst hq
      exact ⟨q, hc, hw⟩
    obtain ⟨xs, hxl, hxs⟩ := list_of _ len key
    refine ⟨xs, ⟨hxl, fun hn => ?_⟩, hm, fun x hx => ?_⟩
    · obtain ⟨x0, hc0, _⟩ := key 0 hn
      have hsp := World.cell?_spot hc0
      have hlt := World.block_lt_of_cell? w _ hc0
      obtain ⟨b, off, spot⟩ := ad
      have hspot : spot = none := by simpa [Addr.add] using hsp
      subst hspot
      refine ⟨b, off, rfl, by simpa [Addr.add] using hlt, fun i x hx j hj => ?_⟩
      obtain ⟨g0, _⟩ := hxs i x hx
      obtain rfl : j = 0 := by omega
      have e : (⟨b, off, none⟩ : Addr).add i = ⟨b, off + i, none⟩ := by
        unfold Addr.add
        by_cases hk : i = 0 <;> simp [hk]
      rw [e] at g0
      simpa [cS] using g0
    · obtain ⟨i, hi3⟩ := List.mem_iff_getElem?.1 hx
      exact (hxs i x hi3).2
end
end Go.Proofs.Ytblgeehdngejpaa
