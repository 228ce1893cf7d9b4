/-
  Contracts of the library's functions at this dump, in plain words: written by the kit's lay-shelf.mjs and lay-plain.mjs; of them only those that are used.
-/
import Derived.Ground.GgsProg
import Derived.Shelf.GgSortFunc.Insertion
import Derived.Shelf.GgSortFunc.Tiny
import Derived.Shelf.GgSortFunc.Compose
import Derived.Ground.GgtProg
import Derived.Shelf.GgSortMore.Stable
import Derived.Test.YtblgeehdngejpaaProg
namespace Go.Proofs
open Go.Shelf
def Try.laysGg26_ren : Go.Shelf.Ren := ⟨fun | 26 => 29 | n => n, fun | 44 => 44 | 3 => 3 | 0 => 0 | 4 => 4 | 26 => 34 | 37 => 40 | n => n, fun | n => n⟩
theorem Try.laysGg26 : Go.Proofs.LaysGg.n26 Try.prog Try.laysGg26_ren := {
  mixed := by kernel_rfl
  f26 := Try.func29.trans (congrArg some (by kernel_rfl))
  t0 := Try.underlying0
  a0 := Try.isAgg0
  z0 := Try.sizeOf0
  v0 := Try.zeroValue0
  i0 := by kernel_rfl
  t3 := Try.underlying3
  a3 := Try.isAgg3
  z3 := Try.sizeOf3
  v3 := Try.zeroValue3
  i3 := by kernel_rfl
  t4 := Try.underlying4
  a4 := Try.isAgg4
  z4 := Try.sizeOf4
  v4 := Try.zeroValue4
  i4 := by kernel_rfl
  t26 := Try.underlying34
  a26 := Try.isAgg34
  z26 := Try.sizeOf34
  v26 := Try.zeroValue34
  i26 := by kernel_rfl
  t37 := Try.underlying40
  a37 := Try.isAgg40
  z37 := Try.sizeOf40
  v37 := Try.zeroValue40
  i37 := by kernel_rfl
  t44 := Try.underlying44
  a44 := Try.isAgg44
  z44 := Try.sizeOf44
  v44 := Try.zeroValue44
  i44 := by kernel_rfl }
open Go.RowKit Go.Lib Go.Sort in
/-- sort.insertionSort_func, from a world to a 'sortWorld' of it. (LAID: no walk: one application.) -/
theorem Try.insertionSort_func_w {α : Type} [Inhabited α] (enc : α → Value) (lt : α → α → Bool) (g : Nat) (lb : Array Value) (sf : Nat) (sb : Array Value) (blk off a b : Nat) (d : Array α) (w : World) (eg : ∀ args w, (callFunc g args).run Try.prog w = .ok (.enter g args) w) (hless : LessReads Try.prog g lb enc lt blk off d.size w) (hswap : SwapSwaps Try.prog sf sb enc blk off d.size) (hH : Holds enc w blk off d) (hblk : blk < w.heap.size) (hab : a ≤ b) (hb : b ≤ d.size) (hsz : d.size < 4611686018427387904) :
    Calls Try.prog 29 #[.agg #[.func (.func g) #[] lb, .func (.func sf) #[] sb], .int .i64 a, .int .i64 b] w fun e w' => e = .returned (.tuple #[]) ∧ ∃ n os, w' = sortWorld enc w blk off n (Sort.insertionSort lt d a b) os := Any.insertionSort_func_w Try.laysGg26 enc lt g lb sf sb blk off a b d w eg hless hswap hH hblk hab hb hsz
def Try.laysGt8_ren : Go.Shelf.Ren := ⟨fun | 8 => 14 | 13 => 16 | 14 => 17 | 16 => 19 | 15 => 18 | 29 => 29 | 30 => 30 | 42 => 31 | 49 => 32 | n => n, fun | 20 => 20 | 26 => 34 | 36 => 38 | 0 => 0 | 38 => 40 | 42 => 44 | 3 => 3 | 4 => 4 | 47 => 51 | 17 => 17 | 33 => 35 | 34 => 36 | 89 => 66 | 12 => 12 | 56 => 58 | 82 => 59 | 5 => 5 | 83 => 60 | 84 => 61 | 85 => 62 | 86 => 63 | 87 => 64 | n => n, fun | n => n⟩
theorem Try.laysGt8 : Go.Proofs.LaysGt.n8 Try.prog Try.laysGt8_ren := {
  mixed := by kernel_rfl
  f8 := Try.func14.trans (congrArg some (by kernel_rfl))
  f13 := Try.func16.trans (congrArg some (by kernel_rfl))
  f14 := Try.func17.trans (congrArg some (by kernel_rfl))
  f15 := Try.func18.trans (congrArg some (by kernel_rfl))
  f16 := Try.func19.trans (congrArg some (by kernel_rfl))
  f29 := Try.func29.trans (congrArg some (by kernel_rfl))
  f30 := Try.func30.trans (congrArg some (by kernel_rfl))
  f42 := Try.func31.trans (congrArg some (by kernel_rfl))
  f49 := Try.func32.trans (congrArg some (by kernel_rfl))
  t0 := Try.underlying0
  a0 := Try.isAgg0
  z0 := Try.sizeOf0
  v0 := Try.zeroValue0
  i0 := by kernel_rfl
  t3 := Try.underlying3
  a3 := Try.isAgg3
  z3 := Try.sizeOf3
  v3 := Try.zeroValue3
  i3 := by kernel_rfl
  t4 := Try.underlying4
  a4 := Try.isAgg4
  z4 := Try.sizeOf4
  v4 := Try.zeroValue4
  i4 := by kernel_rfl
  t5 := Try.underlying5
  a5 := Try.isAgg5
  z5 := Try.sizeOf5
  v5 := Try.zeroValue5
  i5 := by kernel_rfl
  t12 := Try.underlying12
  a12 := Try.isAgg12
  z12 := Try.sizeOf12
  v12 := Try.zeroValue12
  i12 := by kernel_rfl
  t17 := Try.underlying17
  a17 := Try.isAgg17
  z17 := Try.sizeOf17
  v17 := Try.zeroValue17
  i17 := by kernel_rfl
  t20 := Try.underlying20
  a20 := Try.isAgg20
  z20 := Try.sizeOf20
  v20 := Try.zeroValue20
  i20 := by kernel_rfl
  t26 := Try.underlying34
  a26 := Try.isAgg34
  z26 := Try.sizeOf34
  v26 := Try.zeroValue34
  i26 := by kernel_rfl
  t33 := Try.underlying35
  a33 := Try.isAgg35
  z33 := Try.sizeOf35
  v33 := Try.zeroValue35
  i33 := by kernel_rfl
  t34 := Try.underlying36
  a34 := Try.isAgg36
  z34 := Try.sizeOf36
  v34 := Try.zeroValue36
  i34 := by kernel_rfl
  t36 := Try.underlying38
  a36 := Try.isAgg38
  z36 := Try.sizeOf38
  v36 := Try.zeroValue38
  i36 := by kernel_rfl
  t38 := Try.underlying40
  a38 := Try.isAgg40
  z38 := Try.sizeOf40
  v38 := Try.zeroValue40
  i38 := by kernel_rfl
  t42 := Try.underlying44
  a42 := Try.isAgg44
  z42 := Try.sizeOf44
  v42 := Try.zeroValue44
  i42 := by kernel_rfl
  t47 := Try.underlying51
  a47 := Try.isAgg51
  z47 := Try.sizeOf51
  v47 := Try.zeroValue51
  i47 := by kernel_rfl
  t56 := Try.underlying58
  a56 := Try.isAgg58
  z56 := Try.sizeOf58
  v56 := Try.zeroValue58
  i56 := by kernel_rfl
  t82 := Try.underlying59
  a82 := Try.isAgg59
  z82 := Try.sizeOf59
  v82 := Try.zeroValue59
  i82 := by kernel_rfl
  t83 := Try.underlying60
  a83 := Try.isAgg60
  z83 := Try.sizeOf60
  v83 := Try.zeroValue60
  i83 := by kernel_rfl
  t84 := Try.underlying61
  a84 := Try.isAgg61
  z84 := Try.sizeOf61
  v84 := Try.zeroValue61
  i84 := by kernel_rfl
  t85 := Try.underlying62
  a85 := Try.isAgg62
  z85 := Try.sizeOf62
  v85 := Try.zeroValue62
  i85 := by kernel_rfl
  t86 := Try.underlying63
  a86 := Try.isAgg63
  z86 := Try.sizeOf63
  v86 := Try.zeroValue63
  i86 := by kernel_rfl
  t87 := Try.underlying64
  a87 := Try.isAgg64
  z87 := Try.sizeOf64
  v87 := Try.zeroValue64
  i87 := by kernel_rfl
  t89 := Try.underlying66
  a89 := Try.isAgg66
  z89 := Try.sizeOf66
  v89 := Try.zeroValue66
  i89 := by kernel_rfl }
end Go.Proofs
