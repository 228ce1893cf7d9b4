/-
  Two slices of int that grow side by side.
-/
import Derived.Test.YtabmhmbmdegoaaaDrw
namespace Go.Proofs.Ytabmhmbmdegoaaa
open Go.RowKit
set_option linter.unusedVariables false

structure Two (base : Nat) (w : World) (u v : Value) (xs ys : List Int) : Prop where
  a : w.ownsRow base 3 1 u xs.length (xs.map (Value.int .i64))
  b : w.ownsRow base 3 1 v ys.length (ys.map (Value.int .i64))
  ne : ∀ g, u.ownBlock = some g → v.ownBlock ≠ some g
theorem Two.nil (base : Nat) (w : World) : Two base w (.slice none 0 0) (.slice none 0 0) [] [] := ⟨World.ownsRow_nil _ _ _ _, World.ownsRow_nil _ _ _ _, fun g h => by cases h⟩
theorem Two.swap {base : Nat} {w : World} {u v : Value} {xs ys : List Int} (h : Two base w u v xs ys) : Two base w v u ys xs := ⟨h.b, h.a, fun g hv hu => h.ne g hu hv⟩
theorem Two.left {base : Nat} {w w' : World} {u v u' : Value} {xs ys : List Int} {x : Int} {o : Obj} (h : Two base w u v xs ys) (ho : w'.ownsRow base 3 1 u' (xs.length + 1) (xs.map (Value.int .i64) ++ [.int .i64 x])) (hg : (w.alloc o).grownBy w' u.ownBlock)
    (hat : u'.ownBlock = u.ownBlock ∨ u'.ownBlock = some (w.heap.size + 1)) : Two base w' u' v (xs ++ [x]) ys := by
  refine ⟨by simpa using ho, (h.b.alloc o).kept hg ?_, fun g hu hv => ?_⟩
  · rcases hv : v.ownBlock with _ | g
    · exact .inl rfl
    · exact .inr fun e => h.ne g e.symm hv
  · rcases hat with h1 | h1
    · exact h.ne g (h1.symm.trans hu) hv
    · rw [h1] at hu
      have h2 := (h.b.lt g hv).2
      cases hu
      omega
theorem Two.right {base : Nat} {w w' : World} {u v v' : Value} {xs ys : List Int} {x : Int} {o : Obj} (h : Two base w u v xs ys) (ho : w'.ownsRow base 3 1 v' (ys.length + 1) (ys.map (Value.int .i64) ++ [.int .i64 x])) (hg : (w.alloc o).grownBy w' v.ownBlock)
    (hat : v'.ownBlock = v.ownBlock ∨ v'.ownBlock = some (w.heap.size + 1)) : Two base w' u v' xs (ys ++ [x]) := (h.swap.left ho hg hat).swap
theorem below_grow {B base : Nat} {a w w' : World} {v : Value} {n : Nat} {zs : List Value} {o : Obj} (h : Below B a w) (hv : w.ownsRow base 3 1 v n zs) (hg : (w.alloc o).grownBy w' v.ownBlock) (hB : B ≤ base) (hw : B ≤ w.heap.size) : Below B a w' :=
  (h.alloc hw o).grown hg (by simp; omega) (fun k hk => Nat.le_trans hB (hv.lt k hk).1)
end Go.Proofs.Ytabmhmbmdegoaaa
