/-
  DivideByWeights: two slices that grow side by side, the second in a cell; append at a step of a region that draws its order.
-/
import Derived.Test.YtblgeehdngejpaaDw2
import Derived.Test.YtblgeehdngejpaaCom
import Derived.Deep.RegionHeld3
namespace Go.Proofs.Ytblgeehdngejpaa
open Go.RowKit
set_option linter.unusedVariables false

theorem wp_append_own1 {P : Program} (w : World) {o : Oper} {a : Act} {K : Act → World → Prop} {Q : Exit → Act → World → Prop} (s x : Operand) (t : TypeId)
    (ho : o.op = .call { callee := .builtin .append, args := #[s, x], argTypes := #[t, t] })
    (base : Nat) (e : TypeId) (i : TypeInfo) (ht : P.underlying t = some (.slice e)) (hi : P.info? e = some i) (hz : i.zero = some (.int .i64 0)) (hsize : i.size = 1) (hby : i.bytes = 8)
    (v : Value) (n : Nat) (xs : List Value) (hs : a.eval s = v) (hown : w.ownsRow base e 1 v n xs)
    (ad : Addr) (y : Int) (hx : a.eval x = .slice (some ad) 1 1) (hnews : w.cell? ad = some (.int .i64 y))
    (h63 : n ≤ 1000000) (hbase : base ≤ w.heap.size)
    (h : ∀ v' w', w'.ownsRow base e 1 v' (n + 1) (xs ++ [.int .i64 y]) → w.grownBy w' v.ownBlock → (v'.ownBlock = v.ownBlock ∨ v'.ownBlock = some w.heap.size) → K (a.put o.dst v') w') : o.wp P a w K Q := by
  obtain ⟨v', w', hr, h2, h3, _, h5⟩ := run_append_own_at (P := P) w base t o.type e i (.int .i64 0) 1 8 ht hi hz hsize hby rfl (by decide) v n xs hown ad 1 1 [.int .i64 y] rfl
    (fun j u hu => by
      rcases j with _ | j
      · simp at hu; subst hu; simpa [Addr.add] using hnews
      · simp at hu) (by intro u hu; simp at hu; subst hu; rfl) (by unfold maxLen; omega) (by omega) hbase
  unfold Oper.wp execOp
  simp only [ho, resolve, invoke, builtin, Sem.run_bind, Sem.run_pure, Result.andThen_ok, List.map_toArray, List.map_cons, List.map_nil, hs, hx, hr]
  exact h v' w' h2 h3 h5
theorem own_cap {w : World} {base : Nat} {e : TypeId} {A : Option Addr} {n c : Nat} {xs : List Value} (h : w.ownsRow base e 1 (.slice A n c) n xs) : n ≤ c := by
  rcases h.2 with ⟨h1, h2⟩ | ⟨g, cap, cur, h1, _, _, h2, _⟩
  · cases h1; omega
  · have e1 : c = cap := (Value.slice.inj h1).2.2
    omega

/-- two slices of int of the call's own: shares u, order v; the order's variable lies in cell ob, which holds c -/
structure Ordr (base ob : Nat) (W0 w : World) (c u v : Value) (xs ys : List Int) : Prop where
  a : w.ownsRow base 3 1 u xs.length (xs.map (Value.int .i64))
  b : w.ownsRow base 3 1 v ys.length (ys.map (Value.int .i64))
  ne : ∀ g, u.ownBlock = some g → v.ownBlock ≠ some g
  cell : w.cell? ⟨ob, 0, none⟩ = some c
  frz : w.frozen? ⟨ob, 0, none⟩ = false
  lt : ob < w.heap.size
  hb : base ≤ ob
  hu : u.ownBlock ≠ some ob
  hv : v.ownBlock ≠ some ob
  bl : Below base W0 w
section
variable {base ob : Nat} {W0 w w' : World} {c u v u' v' : Value} {xs ys : List Int} {x : Int}
theorem Ordr.below (h : Ordr base ob W0 w c u v xs ys) (hb : Below w.heap.size w w') : Ordr base ob W0 w' c u v xs ys :=
  ⟨own_below h.a hb, own_below h.b hb, h.ne, (hb.cell (p := ⟨ob, 0, none⟩) h.lt).trans h.cell, (hb.frozen (p := ⟨ob, 0, none⟩) h.lt).trans h.frz, Nat.lt_of_lt_of_le h.lt hb.size, h.hb, h.hu, h.hv, h.bl.trans (hb.mono (by have := h.lt; have := h.hb; omega))⟩
theorem Ordr.left (h : Ordr base ob W0 w c u v xs ys) (ho : w'.ownsRow base 3 1 u' (xs.length + 1) (xs.map (Value.int .i64) ++ [.int .i64 x])) (hg : w.grownBy w' u.ownBlock) (hat : u'.ownBlock = u.ownBlock ∨ u'.ownBlock = some w.heap.size) : Ordr base ob W0 w' c u' v (xs ++ [x]) ys := by
  have hbk : w'.heap[ob]? = w.heap[ob]? := hg.block ob h.lt (fun e => h.hu e.symm)
  refine ⟨by simpa using ho, h.b.kept hg ?_, fun g hu hv => ?_, (World.cell?_of_block (a := ⟨ob, 0, none⟩) hbk).trans h.cell, (World.frozen?_of_block (a := ⟨ob, 0, none⟩) hbk).trans h.frz, Nat.lt_of_lt_of_le h.lt hg.size, h.hb, fun e => ?_, h.hv, ?_⟩
  · rcases hv : v.ownBlock with _ | g
    · exact .inl rfl
    · exact .inr fun e => h.ne g e.symm hv
  · rcases hat with h1 | h1
    · exact h.ne g (h1.symm.trans hu) hv
    · rw [h1] at hu
      have h2 := (h.b.lt g hv).2
      cases hu
      omega
  · rcases hat with h1 | h1
    · exact h.hu (h1.symm.trans e)
    · rw [h1] at e
      have := h.lt
      cases e
      omega
  · exact h.bl.grown hg (by have := h.lt; have := h.hb; omega) (fun k hk => (h.a.lt k hk).1)
theorem Ordr.right (h : Ordr base ob W0 w c u v xs ys) (ho : w'.ownsRow base 3 1 v' (ys.length + 1) (ys.map (Value.int .i64) ++ [.int .i64 x])) (hg : w.grownBy w' v.ownBlock) (hat : v'.ownBlock = v.ownBlock ∨ v'.ownBlock = some w.heap.size) : Ordr base ob W0 w' c u v' xs (ys ++ [x]) := by
  have hbk : w'.heap[ob]? = w.heap[ob]? := hg.block ob h.lt (fun e => h.hv e.symm)
  refine ⟨h.a.kept hg ?_, by simpa using ho, fun g hu hv => ?_, (World.cell?_of_block (a := ⟨ob, 0, none⟩) hbk).trans h.cell, (World.frozen?_of_block (a := ⟨ob, 0, none⟩) hbk).trans h.frz, Nat.lt_of_lt_of_le h.lt hg.size, h.hb, h.hu, fun e => ?_, ?_⟩
  · rcases hu : u.ownBlock with _ | g
    · exact .inl rfl
    · exact .inr fun e => h.ne g hu e.symm
  · rcases hat with h1 | h1
    · exact h.ne g hu (h1.symm.trans hv)
    · rw [h1] at hv
      have h2 := (h.a.lt g hu).2
      cases hv
      omega
  · rcases hat with h1 | h1
    · exact h.hv (h1.symm.trans e)
    · rw [h1] at e
      have := h.lt
      cases e
      omega
  · exact h.bl.grown hg (by have := h.lt; have := h.hb; omega) (fun k hk => (h.b.lt k hk).1)
theorem Ordr.store (h : Ordr base ob W0 w c u v xs ys) : Ordr base ob W0 (w.setCell ⟨ob, 0, none⟩ v) v u v xs ys :=
  ⟨own_set h.a h.hu 0 v, own_set h.b h.hv 0 v, h.ne, World.cell?_setCell_same _ _ _ h.cell, by rw [World.frozen?_setCell]; exact h.frz, by simpa [World.setCell] using h.lt, h.hb, h.hu, h.hv, h.bl.setCell h.hb v⟩
end
/-- 0, 1, .., n - 1 -/
def upto (n : Nat) : List Int := (List.range n).map (fun i : Nat => (i : Int))
theorem upto_len (n : Nat) : (upto n).length = n := by simp [upto]
theorem upto_at {n k : Nat} (h : k < n) : (upto n)[k]? = some (k : Int) := by simp [upto, h]
theorem upto_succ (n : Nat) : upto (n + 1) = upto n ++ [(n : Int)] := by simp [upto, List.range_succ]
end Go.Proofs.Ytblgeehdngejpaa
