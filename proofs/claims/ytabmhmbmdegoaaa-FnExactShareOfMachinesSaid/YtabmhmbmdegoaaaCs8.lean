/-
  append(append([]int{}, order...), i): a copy of a slice and one more.
-/
import Derived.Test.YtabmhmbmdegoaaaOrd
import Derived.Test.YtabmhmbmdegoaaaOwn
namespace Go.Proofs.Ytabmhmbmdegoaaa
open Go.RowKit
set_option linter.unusedVariables false
attribute [local go_sem ↓] Go.wp_at_zero Go.wp_at_succ

theorem map_cells {w : World} {ad : Addr} {ls : List Int} (h : ∀ (j : Nat) (x : Int), ls[j]? = some x → w.cell? (ad.add j) = some (.int .i64 x)) : ∀ (j : Nat) (u : Value), (ls.map (Value.int .i64))[j]? = some u → w.cell? (ad.add j) = some u := by
  intro j u hu
  rw [List.getElem?_map] at hu
  rcases hx : ls[j]? with _ | x
  · rw [hx] at hu; cases hu
  · rw [hx] at hu; cases hu; exact h j x hx
theorem ints_one (ls : List Int) : ∀ u ∈ ls.map (Value.int .i64), u.oneCell' = true := by
  intro u hu
  obtain ⟨x, _, rfl⟩ := List.mem_map.1 hu
  rfl
theorem own_start (w : World) : OwnG 3 1 w.heap.size w w.heap.size (w.alloc (.cells #[] 3)) (.slice (some ⟨w.heap.size, 0, none⟩) 0 0) 0 [] :=
  ⟨own_empty (heap_alloc_new w _) (Nat.le_refl _), fun k hk => .inl (by simpa [Value.ownBlock] using hk.symm), World.grownBy_alloc _ _ _⟩
theorem run_append_nilsrc {P : Program} (w : World) (base : Nat) (t ty e : TypeId) (i : TypeInfo) (size : Nat) (ht : P.underlying t = some (.slice e)) (hi : P.info? e = some i)
    (v : Value) (n : Nat) (xs : List Value) (hown : w.ownsRow base e size v n xs) (c : Nat) : (Builtin.append_ #[t, t] ty #[v, .slice none 0 c]).run P w = .ok v w := by
  rcases hown.2 with ⟨rfl, rfl⟩ | ⟨g, cap, cur, rfl, _, _, hnc, _⟩
  · simp [Builtin.append_, run_underlying ht, sizeOf, typeInfo, hi, Builtin.lenOf, Builtin.firstCells]
  · simp [Builtin.append_, run_underlying ht, sizeOf, typeInfo, hi, Builtin.lenOf, Builtin.firstCells, hnc, storeCells]
/-- append of a slice of int that reads L, nil and empty too -/
theorem wpList_append_rd {P : Program} (w : World) {ops : Array Oper} {rest : List Oper} {o : Oper} {a : Act} {Q : Exit → Act → World → Prop} (hgd : o.guard = none) (s x : Operand) (t : TypeId)
    (ho : o.op = .call { callee := .builtin .append, args := #[s, x], argTypes := #[t, t] })
    (base : Nat) (e : TypeId) (i : TypeInfo) (ht : P.underlying t = some (.slice e)) (hi : P.info? e = some i) (hz : i.zero = some (.int .i64 0)) (hsize : i.size = 1) (hby : i.bytes = 8)
    (v : Value) (n : Nat) (xs : List Value) (hs : a.eval s = v) (hown : w.ownsRow base e 1 v n xs)
    (B : Nat) (A : Option Addr) (m c : Nat) (L : List Int) (hx : a.eval x = .slice A m c) (hr : Rd cI 1 w B A m L)
    (h63 : n + m ≤ 1000000) (hbase : base ≤ w.heap.size)
    (h : ∀ v' w', w'.ownsRow base e 1 v' (n + m) (xs ++ L.map (Value.int .i64)) → w.grownBy w' v.ownBlock → (v'.ownBlock = v.ownBlock ∨ v'.ownBlock = some w.heap.size) → wpList P ops Q rest (a.put o.dst v') w') : wpList P ops Q (o :: rest) a w := by
  have hl := hr.1
  have hrun : ∃ v' w', (Builtin.append_ #[t, t] o.type #[v, .slice A m c]).run P w = .ok v' w' ∧ w'.ownsRow base e 1 v' (n + m) (xs ++ L.map (Value.int .i64)) ∧ w.grownBy w' v.ownBlock ∧ (v'.ownBlock = v.ownBlock ∨ v'.ownBlock = some w.heap.size) := by
    rcases A with _ | ad
    · have hm : m = 0 := by
        rcases Nat.eq_zero_or_pos m with h0 | h0
        · exact h0
        · obtain ⟨b, off, h, _⟩ := hr.2 h0
          cases h
      subst hm
      have hn : L = [] := List.eq_nil_of_length_eq_zero hl
      subst hn
      exact ⟨v, w, run_append_nilsrc w base t o.type e i 1 ht hi v n xs hown c, by simpa using hown, World.grownBy.refl w _, .inl rfl⟩
    · have hcells : ∀ (j : Nat) (u : Value), (L.map (Value.int .i64))[j]? = some u → w.cell? (ad.add j) = some u := map_cells fun j y hy => by
        have hj : j < m := by have := (List.getElem?_eq_some_iff.1 hy).1; omega
        obtain ⟨b2, o2, y2, e2, _, hy2, hc2⟩ := hr.atI hj
        obtain rfl : ad = ⟨b2, o2, none⟩ := by simpa using e2
        rw [hy] at hy2
        cases hy2
        by_cases hj0 : j = 0
        · subst hj0; simpa [Addr.add] using hc2
        · simpa [Addr.add, hj0] using hc2
      obtain ⟨v', w', hrun, h2, h3, _, h5⟩ := run_append_own_at (P := P) w base t o.type e i (.int .i64 0) 1 8 ht hi hz hsize hby rfl (by decide) v n xs hown ad m c (L.map (Value.int .i64)) (by rw [List.length_map, hl, Nat.mul_one]) hcells (ints_one L) (by unfold maxLen; omega) (by omega) hbase
      exact ⟨v', w', hrun, h2, h3, h5⟩
  obtain ⟨v', w', hrun, h2, h3, h4⟩ := hrun
  refine wpList_plain hgd fun K hK => ?_
  unfold Oper.wp execOp
  simp only [ho, resolve, invoke, builtin, Sem.run_bind, Sem.run_pure, Result.andThen_ok, List.map_toArray, List.map_cons, List.map_nil, hs, hx, hrun]
  exact hK _ _ (h v' w' h2 h3 h4)
end Go.Proofs.Ytabmhmbmdegoaaa
