/-
  A slice that the call itself makes and appends to: it may begin as an empty literal in block g; only block g and new blocks turn.
-/
import Derived.Test.YtblgeehdngejpaaSlc
import Derived.Maps.AppendAt
namespace Go.Proofs.Ytblgeehdngejpaa
open Go.RowKit
set_option linter.unusedVariables false

structure OwnG (e : TypeId) (sz base : Nat) (W : World) (g : Nat) (w : World) (v : Value) (n : Nat) (xs : List Value) : Prop where
  own : w.ownsRow base e sz v n xs
  blk : ∀ k, v.ownBlock = some k → k = g ∨ W.heap.size ≤ k
  gr : W.grownBy w (some g)
section
variable {e : TypeId} {sz base g n : Nat} {W w w' : World} {v v' : Value} {xs xs' : List Value}
theorem OwnG.below (h : OwnG e sz base W g w v n xs) (hb : Below w.heap.size w w') : OwnG e sz base W g w' v n xs :=
  ⟨own_below h.own hb, h.blk, ⟨hb.os.trans h.gr.os, hb.tape.trans h.gr.tape, hb.output.trans h.gr.output, Nat.le_trans h.gr.size hb.size, fun k hk hne => (hb.block k (Nat.lt_of_lt_of_le hk h.gr.size)).trans (h.gr.block k hk hne)⟩⟩
theorem OwnG.alloc (h : OwnG e sz base W g w v n xs) (o : Obj) : OwnG e sz base W g (w.alloc o) v n xs := h.below (bl_alloc (Below.refl _ _) o)
theorem OwnG.drewN (h : OwnG e sz base W g w v n xs) (m : Nat) : OwnG e sz base W g (w.drewN m) v n xs := h.below (bl_drewN (Below.refl _ _) m)
theorem OwnG.step {n' : Nat} (h : OwnG e sz base W g w v n xs) (ho : w'.ownsRow base e sz v' n' xs') (hg : w.grownBy w' v.ownBlock) (hat : v'.ownBlock = v.ownBlock ∨ v'.ownBlock = some w.heap.size) : OwnG e sz base W g w' v' n' xs' := by
  refine ⟨ho, fun k hk => ?_, ⟨hg.os.trans h.gr.os, hg.tape.trans h.gr.tape, hg.output.trans h.gr.output, Nat.le_trans h.gr.size hg.size, fun k hk hne => ?_⟩⟩
  · rcases hat with h1 | h1
    · exact h.blk k (by rw [← h1]; exact hk)
    · rw [h1] at hk
      have : w.heap.size = k := by simpa using hk
      have := h.gr.size
      exact .inr (by omega)
  · refine (hg.block k (Nat.lt_of_lt_of_le hk h.gr.size) (fun he => ?_)).trans (h.gr.block k hk hne)
    rcases h.blk k he.symm with rfl | h2
    · exact hne rfl
    · omega
theorem OwnG.push {n' : Nat} {o : Obj} (h : OwnG e sz base W g w v n xs) (ho : w'.ownsRow base e sz v' n' xs') (hg : (w.alloc o).grownBy w' v.ownBlock) (hat : v'.ownBlock = v.ownBlock ∨ v'.ownBlock = some (w.heap.size + 1)) : OwnG e sz base W g w' v' n' xs' :=
  (h.alloc o).step ho hg (by simpa using hat)
theorem OwnG.cell (h : OwnG e sz base W g w v n xs) {b : Nat} (hb : b < W.heap.size) (hne : b ≠ g) (o : Nat) : w.cell? ⟨b, o, none⟩ = W.cell? ⟨b, o, none⟩ :=
  World.cell?_of_block (a := ⟨b, o, none⟩) (h.gr.block b hb (by simpa using hne))
theorem OwnG.frozen (h : OwnG e sz base W g w v n xs) {b : Nat} (hb : b < W.heap.size) (hne : b ≠ g) (o : Nat) : w.frozen? ⟨b, o, none⟩ = W.frozen? ⟨b, o, none⟩ :=
  World.frozen?_of_block (a := ⟨b, o, none⟩) (h.gr.block b hb (by simpa using hne))
theorem OwnG.to_below {B : Nat} (h : OwnG e sz base W g w v n xs) (hB : B ≤ g) (hW : B ≤ W.heap.size) : Below B W w :=
  ⟨h.gr.os, h.gr.tape, h.gr.output, h.gr.size, fun k hk => h.gr.block k (by omega) (by simp; omega)⟩
theorem OwnG.start (hg : W.heap[g]? = some (.cells #[] e (0, 0))) (hb : base ≤ g) : OwnG e sz base W g W (.slice (some ⟨g, 0, none⟩) 0 0) 0 [] :=
  ⟨⟨by simp, .inr ⟨g, 0, #[], rfl, hb, hg, by omega, by simp [maxLen], by simp, by simp⟩⟩, fun k hk => .inl (by simp [Value.ownBlock] at hk; exact hk.symm), World.grownBy.refl _ _⟩
theorem OwnG.nil (W : World) (g : Nat) : OwnG e sz base W g W (.slice none 0 0) 0 [] :=
  ⟨World.ownsRow_nil _ _ _ _, fun k hk => by simp [Value.ownBlock] at hk, World.grownBy.refl _ _⟩
end
end Go.Proofs.Ytblgeehdngejpaa
